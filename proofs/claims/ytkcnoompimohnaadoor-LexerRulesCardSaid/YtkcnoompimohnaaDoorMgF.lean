/- Part 6 of what LexerRules needs: SmW, SmD, SmX, SmY, SmPL, SmIn, MixX, SmA, SmPk, SmUp, SmCk, LexL, LexA, LexB, SmBk, LexN, LexW, LxRl, RexMany. -/
import Derived.Test.YtkcnoompimohnaaDoorMgE
import Derived.WalkKit
import Derived.WalkSpells
import Derived.WalkLawsBesides
import Derived.Deep.RegionLaw
import Derived.Deep.AppendLies
import Derived.Deep.QuietTactic
import Derived.BigQuiet
import Derived.Deep.DeepCutAuto
import Derived.Lib.Hide
import Derived.Test.YtkcnoompimohnaaDoorRows
import Derived.ProofKit
import Derived.OpenShut
import Derived.ShutString
import Derived.SizedLaws
import Derived.JoinedCond
import Derived.Deep.CondSized
import Derived.Deep.Quiet
import Derived.StillTail
import Derived.Deep.LoopGhost
import Derived.Laws.BitsLemmas
import Derived.Laws.BytesString
import Derived.Test.YtkcnoompimohnaaDoorProg
import Derived.Laws.Entries
import Derived.Laws.BitsAllLaws
import Derived.Laws.StructEq
import Derived.ChangeKeysEq
import Derived.Lib.TrailingZeros
import Derived.Laws.MakeOwn
import Derived.Laws.AppendOwn
import Derived.Laws.Bits64b
import Derived.Maps.OwnSet
import Derived.DeepKeys4
import Derived.WideKeyEntry
import Derived.Handed
import Derived.Lay
import Derived.Lib.LaidTab
import Derived.MakeChecks
import Derived.Lib.SlicesCompact
import Derived.Shelf.Sort.Plain
import Derived.Ground.Names2Prog
import Derived.Shelf.Slices.CompactI
import Derived.Shelf.Slices.In.SortNone
import Derived.Lib.RowBridge
/- SmW -/
namespace Go.Proofs.YtkcnoompimohnaaDoor.eng
open Go.RowKit kit mix dfaL smallL
set_option maxRecDepth 100000 in
theorem build_dead (w : World) : (Instr.build 100 #[(1, rowV (Vector.replicate 256 0))]).run Tryd.prog w = .ok (kindV dead) w := by kernel_rfl
set_option maxRecDepth 100000 in
theorem build_kind (x : Int) (w : World) : (Instr.build 100 #[(0, .int .i64 x)]).run Tryd.prog w = .ok (kindV (x, Vector.replicate 256 0)) w := by kernel_rfl
theorem wrap16 {x : Int} (h0 : -32768 ≤ x) (h1 : x ≤ 32767) : IntKind.i16.wrap x = x := by
  simp only [IntKind.wrap, IntKind.bits, IntKind.signed]
  simp
  omega
abbrev intV (x : Int) : Value := .int .i64 x
theorem kind_set (x : Int) (r : Row) {b : Nat} (hb : b < 256) (y : Int) : (kindC (x, r)).toArray.setIfInBounds (1 + b) (.int .i16 y) = (kindC (x, r.set b y)).toArray := by
  have e : 1 + b = b + 1 := by omega
  unfold kindC
  rw [e, List.setIfInBounds_toArray, List.set_cons_succ]
  have := row_set r hb y
  rw [List.setIfInBounds_toArray] at this
  have h2 : (rowC r).set b (.int .i16 y) = rowC (r.set b y) := by simpa using this
  rw [h2]
section
variable {P : Program} {n : Nat} {W : Base} {fr : Fr} {L : List Own} {Q : Exit → Act → World → Prop} {ops : Array Oper} {rest : List Oper} {ty : TypeId} {pos : String} {after : Array Edge}
theorem TL_storeK {t : TypeId} {p x : Operand} {i g b : Nat} {y : Int} {r : Row} {T : TypeId} {agg : Bool} {z : Int} [hT : TyC P t agg 1] (hi : L[i]? = some (blkO g (kindC (y, r)).toArray T)) (hp : ev fr p = some (.pointer (some ⟨g, 1 + b, none⟩))) (hx : ev fr x = some (.int .i16 z)) (hb : b < 256)
    (h : TL P n W ops Q rest fr (L.set i (blkO g (kindC (y, r.set b z)).toArray T))) : TL P n W ops Q (⟨none, .store t p x, ty, pos, after, none⟩ :: rest) fr L := by
  refine TL_store1 hi hp hx rfl rfl ?_ ?_
  · rw [List.size_toArray, kindC_len]; exact Nat.blt_eq ▸ (by omega : 1 + b < 257)
  · rw [kind_set y r hb]; exact h
end
/-- the row of a kind, so far -/
def kRow (A : Aut) (now : Nat → Nat) (i b : Nat) : Row := Vector.ofFn fun j : Fin 256 => if j < b then (val now (A.d i j) : Int) else 0
theorem kRow_0 (A : Aut) (now : Nat → Nat) (i : Nat) : kRow A now i 0 = Vector.replicate 256 0 := by
  refine Vector.ext fun j hj => ?_
  unfold kRow; simp
theorem kRow_all (A : Aut) (now : Nat → Nat) (i : Nat) : ((now i : Int), kRow A now i 256) = kind A now i := by
  refine Prod.ext rfl (Vector.ext fun j hj => ?_)
  unfold kRow kind; simp [hj]
theorem kRow_set (A : Aut) (now : Nat → Nat) (i b : Nat) (hb : b < 256) : (kRow A now i b).set b (val now (A.d i b) : Int) = kRow A now i (b + 1) := by
  refine Vector.ext fun j hj => ?_
  unfold kRow
  rw [Vector.getElem_set, Vector.getElem_ofFn, Vector.getElem_ofFn]
  split
  · rename_i e; subst e; simp
  · have : j < b ↔ j < b + 1 := by omega
    simp only [this]
theorem kRow_skip (A : Aut) (now : Nat → Nat) (i b : Nat) (hb : b < 256) (h0 : val now (A.d i b) = 0) : kRow A now i b = kRow A now i (b + 1) := by
  rw [← kRow_set A now i b hb, h0]
  refine Vector.ext fun j hj => ?_
  rw [Vector.getElem_set]
  split
  · rename_i e; subst e; unfold kRow; simp
  · rfl
/-- on the way of small.blocks -/
structure Rounds (A : Aut) (f n : Nat) (now : Nat → Nat) : Prop where
  eq : blocksF A = blkGo A f n now
  rd : n = 0 ∨ Round A n now
  le : n ≤ A.n + 1
  fuel : A.n + 2 ≤ f + n
  lim : ∀ i, i < A.n → now i ≤ 200
theorem rounds0 {A : Aut} (hA : A.Ok) : Rounds A (A.n + 2) 0 (now0 A) := ⟨rfl, .inl rfl, Nat.zero_le _, by omega, fun i hi => by unfold now0; have := hA.tags i hi; omega⟩
theorem rounds_next {A : Aut} (hA : A.Ok) {f n : Nat} {now : Nat → Nat} (h : Rounds A f n now) : ∃ f', f = f' + 1 ∧ ((tab A now).length = n → blocksF A = next A now) ∧ ((tab A now).length ≠ n → Rounds A f' (tab A now).length (next A now)) := by
  have h1 := h.le
  have h2 := h.fuel
  obtain ⟨f', rfl⟩ : ∃ f', f = f' + 1 := ⟨f - 1, by omega⟩
  have e := h.eq
  unfold blkGo at e
  refine ⟨f', rfl, fun hc => by rw [e, if_pos hc], fun hc => ⟨by rw [e, if_neg hc], .inr ⟨now, rfl, rfl⟩, tab_le now, ?_, fun i hi => ?_⟩⟩
  · have hp := tab_pos (A := A) now
    rcases h.rd with rfl | hr
    · omega
    · have := (round_mono hr).1; omega
  · have := val_next_lt (A := A) (now := now) (q := (i : Int)) (by omega)
    rw [val_nat] at this
    have h3 := tab_le (A := A) now
    have h4 := hA.le
    omega
theorem val_lim {A : Aut} {now : Nat → Nat} (h : ∀ i, i < A.n → now i ≤ 200) {q : Int} (hq : St A q) : val now q ≤ 200 := by
  unfold val
  split
  · omega
  · exact h _ (by unfold St at hq; omega)
theorem kind_ok {A : Aut} (hA : A.Ok) {now : Nat → Nat} (h : ∀ i, i < A.n → now i ≤ 200) {i : Nat} (hi : i < A.n) : kit.okI64 (kind A now i).1 ∧ rowOk (kind A now i).2 := by
  refine ⟨?_, fun b hb => ?_⟩
  · have := h i hi
    show kit.okI64 (now i : Int)
    exact ⟨by omega, by omega⟩
  · have := val_lim h (hA.step i hi b hb)
    unfold kind
    rw [Vector.getElem_ofFn]
    show -32768 ≤ (val now (A.d i b) : Int) ∧ (val now (A.d i b) : Int) ≤ 32767
    omega
/-- keys so far -/
def tabTo (A : Aut) (now : Nat → Nat) (i : Nat) : List Kind := firsts [dead] ((kinds A now).take i)
theorem tabTo_all (A : Aut) (now : Nat → Nat) : tabTo A now A.n = tab A now := by unfold tabTo tab; rw [List.take_of_length_le (by simp [kinds])]
theorem kinds_get (A : Aut) (now : Nat → Nat) {i : Nat} (hi : i < A.n) : ∃ h : i < (kinds A now).length, (kinds A now)[i] = kind A now i := ⟨by simpa [kinds] using hi, by simp [kinds]⟩
theorem tab_old (A : Aut) (now : Nat → Nat) {i : Nat} (hi : i < A.n) (h : kind A now i ∈ tabTo A now i) : tabTo A now (i + 1) = tabTo A now i ∧ next A now i = idx (tabTo A now i) (kind A now i) := by
  obtain ⟨hl, e⟩ := kinds_get A now hi
  have h2 := idx_at (D := [dead]) hl
  unfold tabTo at h
  rw [e, if_pos h] at h2
  refine ⟨?_, h2⟩
  unfold tabTo
  rw [List.take_succ_eq_append_getElem hl, firsts_snoc, e, more, if_pos]
  exact h
theorem tab_new (A : Aut) (now : Nat → Nat) {i : Nat} (hi : i < A.n) (h : kind A now i ∉ tabTo A now i) : tabTo A now (i + 1) = tabTo A now i ++ [kind A now i] ∧ next A now i = (tabTo A now i).length := by
  obtain ⟨hl, e⟩ := kinds_get A now hi
  have h2 := idx_at (D := [dead]) hl
  unfold tabTo at h
  rw [e, if_neg h] at h2
  refine ⟨?_, h2⟩
  unfold tabTo
  rw [List.take_succ_eq_append_getElem hl, firsts_snoc, e, more, if_neg]
  exact h
theorem tabTo_le (A : Aut) (now : Nat → Nat) (i : Nat) : (tabTo A now i).length ≤ A.n + 1 := by
  have h := tab_le (A := A) now
  have e : kinds A now = (kinds A now).take i ++ (kinds A now).drop i := (List.take_append_drop _ _).symm
  have hap : ∀ (a b D : List Kind), firsts D (a ++ b) = firsts (firsts D a) b := by
    intro a
    induction a with
    | nil => intro b D; rfl
    | cons x a ih => intro b D; exact ih b _
  obtain ⟨E, h2⟩ := firsts_pre ((kinds A now).drop i) (tabTo A now i)
  have h3 : tab A now = tabTo A now i ++ E := by
    unfold tab
    rw [e, hap]; exact h2
  rw [h3, List.length_append] at h
  omega
set_option maxRecDepth 100000 in
set_option maxHeartbeats 4000000 in
theorem blocks_calls (vr vt : Value) (R : List Row) (tags : List Int) (w : World) (h : DfaM w vr vt R tags) (hc : chk R tags = 0) :
    Calls Tryd.prog 23 #[dfaV vr vt] w (Meets ⟨fun _ => True, fun (g : Nat) => .slice (some ⟨g, 0, none⟩) R.length R.length, fun g => [rowA 3 intV g R.length fun i => (blocksF (aut R tags) i : Int)]⟩ w) := by
  obtain ⟨hA, hlt⟩ := chk_ok hc
  obtain ⟨bt, ct, rfl, ht1, ht2, ht3⟩ := h.hT
  obtain ⟨br, cr, rfl, hr1, hr2, hr3⟩ := h.hR
  have en : (aut R tags).n = R.length := rfl
  have hpos : 0 < R.length := hA.pos
  have hle : R.length ≤ 200 := hA.le
  obtain ⟨b, off, rfl, hr⟩ := hr3 hpos
  obtain ⟨bb, ofT, rfl, hrt⟩ := ht3 (by omega)
  unfold maxLen at hr2 ht2
  have htag : ∀ i, i < R.length → (aut R tags).tag i = tags.getD i 0 := fun i _ => rfl
  clear hr3 ht3 h
  refine enter (args := [dfaV (.slice (some ⟨b, off, none⟩) R.length cr) (.slice (some ⟨bb, ofT, none⟩) tags.length ct)]) (n := 98) Tryd.func23 rfl rfl rfl ?_
  refine T_seq (T_region (TL_box rfl rfl rfl fun g1 => ?_))
  repeat (first
    | refine QV QP ?_ | refine QZ ?_ | refine qcT rfl ?_ | refine qcF rfl ?_ | refine E_blockX ?_ | refine E_blockO rfl ?_
    | refine QV (rr_load1 TyC.ty rfl (at_blk (i := 0) rfl rfl)) ?_ | refine QV QL ?_ | refine QV QA ?_ | refine QV (rr_not rfl rfl) ?_ | refine QV QlT ?_
    | refine QV QlF ?_ | refine QV QhT ?_ | refine QV QhF ?_ | refine QV QeT ?_ | refine QV QeF ?_ | refine QV QaA ?_)
  refine TL_makeA intV 0 rfl rfl (by omega) (by omega) rfl fun g3 => ?_
  conv => arg 8; simp only [zA, zB, zC, zD, zE, zF, zG, zH, zI, rowS, ret, id_eq]
  repeat (first
    | refine QV QP ?_ | refine QZ ?_ | refine qcT rfl ?_ | refine qcF rfl ?_ | refine E_blockX ?_ | refine E_blockO rfl ?_
    | refine QV (rr_load1 TyC.ty rfl (at_blk (i := 0) rfl rfl)) ?_ | refine QV QL ?_ | refine QV QA ?_ | refine QV (rr_not rfl rfl) ?_ | refine QV QlT ?_
    | refine QV QlF ?_ | refine QV QhT ?_ | refine QV QhF ?_ | refine QV QeT ?_ | refine QV QeF ?_ | refine QV QaA ?_)
  refine T_loop (ι := Nat) (fun i => i ≤ tags.length) (fun i => [(1, .pointer (some ⟨g1, 0, none⟩)), (3, .slice (some ⟨g3, 0, none⟩) R.length R.length), (22, .slice (some ⟨bb, ofT, none⟩) tags.length ct), (23, .int .i64 (tags.length : Int)), (24, .int .i64 (i : Int))])
    (fun i => [blkO g1 (dfaV (.slice (some ⟨b, off, none⟩) R.length cr) (.slice (some ⟨bb, ofT, none⟩) tags.length ct)).cells 26, rowA 3 intV g3 R.length fun j => if j < i then (now0 (aut R tags) j : Int) else 0]) (fun i => tags.length - i) 0 (Nat.zero_le _) (by repeat' (first | exact True.intro | refine And.intro rfl ?_)) (by rw [rowA_congr (f' := fun j => if j < 0 then (now0 (aut R tags) j : Int) else 0) fun i _ => by simp]) ?_
  intro i hi
  by_cases c1 : i < tags.length
  · have hat := at_el (W := w) (L := [blkO g1 (dfaV (.slice (some ⟨b, off, none⟩) R.length cr) (.slice (some ⟨bb, ofT, none⟩) tags.length ct)).cells 26, rowA 3 intV g3 R.length fun j => if j < i then (now0 (aut R tags) j : Int) else 0]) (c := 1) (f := kit.intC) (fun _ => rfl) hrt c1 0 _ rfl
    have htg := hA.tags i (by omega)
    have h0 : (now0 (aut R tags) i : Int) = tags[i] + 1 := by
      unfold now0
      rw [aut_tag c1] at htg ⊢
      omega
    rw [aut_tag c1] at htg
    generalize tags[i] = x at *
    repeat (first
      | refine QV QP ?_ | refine QZ ?_ | refine qcT rfl ?_ | refine qcF rfl ?_ | refine E_blockX ?_ | refine E_blockO rfl ?_
      | refine QV (rr_idxc Und.eq TyC.ty rfl rfl c1) ?_ | refine QV (rr_load1 TyC.ty rfl hat) ?_
      | refine QV (rr_idx1 Und.eq TyC.ty rfl rfl (show i < R.length by omega)) ?_ | refine QV QL ?_ | refine QV QA ?_ | refine QV (rr_not rfl rfl) ?_
      | refine QV QlT ?_ | refine QV QlF ?_ | refine QV QhT ?_ | refine QV QhF ?_ | refine QV QeT ?_ | refine QV QeF ?_ | refine QV QaA ?_)
    refine TL_storeA (i := 1) (off := i) (v := x + 1) (fun j => if j < i + 1 then (now0 (aut R tags) j : Int) else 0) TyC.ty rfl rfl rfl rfl rfl (by omega) (fun j hj => ?_) ?_
    · by_cases e : j = i
      · subst e; rw [if_pos (by omega), if_pos rfl, h0]
      · rw [if_neg e]
        have : j < i + 1 ↔ j < i := by omega
        simp only [this]
    conv => arg 8; simp only [zA, zB, zC, zD, zE, zF, zG, zH, zI, rowS, ret, id_eq]
    repeat (first
      | refine QV QP ?_ | refine QZ ?_ | refine qcT rfl ?_ | refine qcF rfl ?_ | refine E_blockX ?_ | refine E_blockO rfl ?_ | refine QV QL ?_
      | refine QV QA ?_ | refine QV (rr_not rfl rfl) ?_ | refine QV QlT ?_ | refine QV QlF ?_ | refine QV QhT ?_ | refine QV QhF ?_ | refine QV QeT ?_
      | refine QV QeF ?_ | refine QV QaA ?_)
    exact E_round (i + 1) (by omega) (by show tags.length - (i + 1) < tags.length - i; omega) (by repeat' (first | exact True.intro | refine And.intro rfl ?_)) rfl
  · obtain rfl : i = tags.length := by omega
    rw [rowA_congr (f' := fun j => (now0 (aut R tags) j : Int)) fun j hj => if_pos (show j < tags.length by omega)]
    clear c1 hi
    repeat (first
      | refine QV QP ?_ | refine QZ ?_ | refine qcT rfl ?_ | refine qcF rfl ?_ | refine E_blockX ?_ | refine E_blockO rfl ?_ | refine QV QL ?_
      | refine QV QA ?_ | refine QV (rr_not rfl rfl) ?_ | refine QV QlT ?_ | refine QV QlF ?_ | refine QV QhT ?_ | refine QV QhF ?_ | refine QV QeT ?_
      | refine QV QeF ?_ | refine QV QaA ?_)
    refine T_loop (ι := Nat × Nat × (Nat → Nat) × Nat) (fun (f, c, now, _) => Rounds (aut R tags) f c now) (fun (_, c, _, g3) => [(1, .pointer (some ⟨g1, 0, none⟩)), (3, .slice (some ⟨g3, 0, none⟩) R.length R.length), (6, .int .i64 (c : Int))])
      (fun (_, _, now, g3) => [blkO g1 (dfaV (.slice (some ⟨b, off, none⟩) R.length cr) (.slice (some ⟨bb, ofT, none⟩) tags.length ct)).cells 26, rowA 3 intV g3 R.length fun j => (now j : Int)]) (fun (f, _, _, _) => f) (R.length + 2, 0, now0 (aut R tags), g3) (rounds0 hA) (by repeat' (first | exact True.intro | refine And.intro rfl ?_)) rfl ?_
    clear g3
    rintro ⟨f, c, now, g3⟩ hrd
    dsimp only at hrd ⊢
    obtain ⟨f', rfl, hend, hgo⟩ := rounds_next hA hrd
    have hlim := hrd.lim
    have hall := smAll_calls 0
    clear hrd
    have hc201 := tab_le (A := aut R tags) now
    rw [en] at hc201
    repeat (first
      | refine QV QP ?_ | refine QZ ?_ | refine qcT rfl ?_ | refine qcF rfl ?_ | refine E_blockX ?_ | refine E_blockO rfl ?_ | refine QV QL ?_
      | refine QV QA ?_ | refine QV (rr_not rfl rfl) ?_ | refine QV QlT ?_ | refine QV QlF ?_ | refine QV QhT ?_ | refine QV QhF ?_ | refine QV QeT ?_
      | refine QV QeF ?_ | refine QV QaA ?_)
    refine TL_mapNew (K := kindK) rfl fun gm => ?_
    conv => arg 8; simp only [zA, zB, zC, zD, zE, zF, zG, zH, zI, rowS, ret, id_eq]
    repeat (first
      | refine QV QP ?_ | refine QZ ?_ | refine qcT rfl ?_ | refine qcF rfl ?_ | refine E_blockX ?_ | refine E_blockO rfl ?_ | refine QV QL ?_
      | refine QV QA ?_ | refine QV (rr_not rfl rfl) ?_ | refine QV QlT ?_ | refine QV QlF ?_ | refine QV QhT ?_ | refine QV QhF ?_ | refine QV QeT ?_
      | refine QV QeF ?_ | refine QV QaA ?_)
    refine TL_call (he1 EntersC.en rfl rfl) (fun w hm => hall _) rfl rfl rfl ?_
    intro _ _
    repeat (first
      | refine QV QP ?_ | refine QZ ?_ | refine qcT rfl ?_ | refine qcF rfl ?_ | refine E_blockX ?_ | refine E_blockO rfl ?_
      | refine QV (rr_build rfl build_dead) ?_ | refine QV QL ?_ | refine QV QA ?_ | refine QV (rr_not rfl rfl) ?_ | refine QV QlT ?_ | refine QV QlF ?_
      | refine QV QhT ?_ | refine QV QhF ?_ | refine QV QeT ?_ | refine QV QeF ?_ | refine QV QaA ?_)
    refine TL_new rfl fun g8 => ?_
    conv => arg 8; simp only [zA, zB, zC, zD, zE, zF, zG, zH, zI, rowS, ret, id_eq]
    refine TL_storeB (i := 3) (cs' := (kindC dead).toArray) rfl rfl rfl (by rw [List.size_toArray, kindC_len]) (by kernel_rfl) (by kernel_rfl) ?_
    conv => arg 8; simp only [zA, zB, zC, zD, zE, zF, zG, zH, zI, rowS, ret, id_eq]
    repeat (first
      | refine QV QP ?_ | refine QZ ?_ | refine qcT rfl ?_ | refine qcF rfl ?_ | refine E_blockX ?_ | refine E_blockO rfl ?_
      | refine QV (rr_loadB (i := 3) TyC.ty rfl rfl (by rw [List.size_toArray, kindC_len])) ?_ | refine QV QL ?_ | refine QV QA ?_
      | refine QV (rr_not rfl rfl) ?_ | refine QV QlT ?_ | refine QV QlF ?_ | refine QV QhT ?_ | refine QV QhF ?_ | refine QV QeT ?_ | refine QV QeF ?_
      | refine QV QaA ?_)
    refine TL_mapNum (K := kindK) (i := 2) (D := []) (x := dead) Und.eq rfl rfl rfl rfl ⟨⟨by decide, by decide⟩, fun b hb => by show -32768 ≤ (Vector.replicate 256 (0 : Int))[b] ∧ (Vector.replicate 256 (0 : Int))[b] ≤ 32767; rw [Vector.getElem_replicate]; decide⟩ (by simp) (by decide) ?_
    conv => arg 8; simp only [zA, zB, zC, zD, zE, zF, zG, zH, zI, rowS, ret, id_eq]
    refine TL_pick [0, 1, 2] (by decide) rfl ?_
    repeat (first
      | refine QV QP ?_ | refine QZ ?_ | refine qcT rfl ?_ | refine qcF rfl ?_ | refine E_blockX ?_ | refine E_blockO rfl ?_ | refine QV QL ?_
      | refine QV QA ?_ | refine QV (rr_not rfl rfl) ?_ | refine QV QlT ?_ | refine QV QlF ?_ | refine QV QhT ?_ | refine QV QhF ?_ | refine QV QeT ?_
      | refine QV QeF ?_ | refine QV QaA ?_)
    refine TL_makeA intV 0 rfl rfl (by omega) (by omega) rfl fun g9 => ?_
    conv => arg 8; simp only [zA, zB, zC, zD, zE, zF, zG, zH, zI, rowS, ret, id_eq]
    repeat (first
      | refine QV QP ?_ | refine QZ ?_ | refine qcT rfl ?_ | refine qcF rfl ?_ | refine E_blockX ?_ | refine E_blockO rfl ?_
      | refine QV (rr_load1 TyC.ty rfl (at_blk (i := 0) rfl rfl)) ?_ | refine QV QL ?_ | refine QV QA ?_ | refine QV (rr_not rfl rfl) ?_ | refine QV QlT ?_
      | refine QV QlF ?_ | refine QV QhT ?_ | refine QV QhF ?_ | refine QV QeT ?_ | refine QV QeF ?_ | refine QV QaA ?_)
    refine T_loop (ι := Nat) (fun i => i ≤ R.length) (fun i => [(1, .pointer (some ⟨g1, 0, none⟩)), (3, .slice (some ⟨g3, 0, none⟩) R.length R.length), (6, .int .i64 (c : Int)), (7, .map (some gm)), (9, .slice (some ⟨g9, 0, none⟩) R.length R.length), (44, .slice (some ⟨b, off, none⟩) R.length cr), (45, .int .i64 (R.length : Int)), (46, .int .i64 (i : Int))])
      (fun i => [blkO g1 (dfaV (.slice (some ⟨b, off, none⟩) R.length cr) (.slice (some ⟨bb, ofT, none⟩) tags.length ct)).cells 26, rowA 3 intV g3 R.length fun j => (now j : Int), mapO kindK gm (mapAt (tabTo (aut R tags) now i)) (tabTo (aut R tags) now i).length, rowA 3 intV g9 R.length fun j => if j < i then (next (aut R tags) now j : Int) else 0]) (fun i => R.length - i) 0 (Nat.zero_le _) (by repeat' (first | exact True.intro | refine And.intro rfl ?_)) (by rw [rowA_congr (g := g9) (f := fun _ => (0 : Int)) (f' := fun j => if j < 0 then (next (aut R tags) now j : Int) else 0) fun i _ => by simp]; rfl) ?_
    intro i hi
    by_cases c2 : i < R.length
    · have hat := at_el (W := w) (L := [blkO g1 (dfaV (.slice (some ⟨b, off, none⟩) R.length cr) (.slice (some ⟨bb, ofT, none⟩) tags.length ct)).cells 26, rowA 3 intV g3 R.length fun j => (now j : Int), mapO kindK gm (mapAt (tabTo (aut R tags) now i)) (tabTo (aut R tags) now i).length, rowA 3 intV g9 R.length fun j => if j < i then (next (aut R tags) now j : Int) else 0]) rowC_len hr c2
      have hrow : ∀ (q : Nat) (hq : q < 256), (aut R tags).d i q = (R[i])[q] := fun q hq => aut_d c2 hq
      have hst : ∀ b, b < 256 → St (aut R tags) ((aut R tags).d i b) := fun b hb => hA.step i c2 b hb
      generalize R[i] = r at *
      repeat (first
        | refine QV QP ?_ | refine QZ ?_ | refine qcT rfl ?_ | refine qcF rfl ?_ | refine E_blockX ?_ | refine E_blockO rfl ?_
        | refine QV (rr_idxc Und.eq TyC.ty rfl rfl c2) ?_ | refine QV (rr_loadN TyC.ty rfl (rowC_len r) hat) ?_ | refine QV QL ?_ | refine QV QA ?_
        | refine QV (rr_not rfl rfl) ?_ | refine QV QlT ?_ | refine QV QlF ?_ | refine QV QhT ?_ | refine QV QhF ?_ | refine QV QeT ?_ | refine QV QeF ?_
        | refine QV QaA ?_)
      refine TL_new rfl fun g11 => ?_
      conv => arg 8; simp only [zA, zB, zC, zD, zE, zF, zG, zH, zI, rowS, ret, id_eq]
      repeat (first
        | refine QV QP ?_ | refine QZ ?_ | refine qcT rfl ?_ | refine qcF rfl ?_ | refine E_blockX ?_ | refine E_blockO rfl ?_ | refine QV QL ?_
        | refine QV QA ?_ | refine QV (rr_not rfl rfl) ?_ | refine QV QlT ?_ | refine QV QlF ?_ | refine QV QhT ?_ | refine QV QhF ?_ | refine QV QeT ?_
        | refine QV QeF ?_ | refine QV QaA ?_)
      refine TL_storeB (i := 4) (cs' := (rowC r).toArray) rfl rfl rfl (by rw [List.size_toArray, rowC_len]) (by simpa using row_one1 r) (by kernel_rfl) ?_
      conv => arg 8; simp only [zA, zB, zC, zD, zE, zF, zG, zH, zI, rowS, ret, id_eq]
      have hln := hlim i c2
      repeat (first
        | refine QV QP ?_ | refine QZ ?_ | refine qcT rfl ?_ | refine qcF rfl ?_ | refine E_blockX ?_ | refine E_blockO rfl ?_
        | refine QV (rr_idx1 Und.eq TyC.ty rfl rfl c2) ?_ | refine QV (rr_load1 TyC.ty rfl (at_rowA (i := 1) rfl c2)) ?_
        | refine QV (rr_build rfl (build_kind _)) ?_ | refine QV QL ?_ | refine QV QA ?_ | refine QV (rr_not rfl rfl) ?_ | refine QV QlT ?_ | refine QV QlF ?_
        | refine QV QhT ?_ | refine QV QhF ?_ | refine QV QeT ?_ | refine QV QeF ?_ | refine QV QaA ?_)
      refine TL_new rfl fun g12 => ?_
      conv => arg 8; simp only [zA, zB, zC, zD, zE, zF, zG, zH, zI, rowS, ret, id_eq]
      refine TL_storeB (i := 5) (cs' := (kindC ((now i : Int), Vector.replicate 256 0)).toArray) rfl rfl rfl (by rw [List.size_toArray, kindC_len]) (by rw [← List.all_toArray]; kernel_rfl) (by kernel_rfl) ?_
      conv => arg 8; simp only [zA, zB, zC, zD, zE, zF, zG, zH, zI, rowS, ret, id_eq]
      repeat (first
        | refine QV QP ?_ | refine QZ ?_ | refine qcT rfl ?_ | refine qcF rfl ?_ | refine E_blockX ?_ | refine E_blockO rfl ?_
        | refine QV (rr_loadB (i := 4) TyC.ty rfl rfl (by rw [List.size_toArray, rowC_len])) ?_ | refine QV QL ?_ | refine QV QA ?_
        | refine QV (rr_not rfl rfl) ?_ | refine QV QlT ?_ | refine QV QlF ?_ | refine QV QhT ?_ | refine QV QhF ?_ | refine QV QeT ?_ | refine QV QeF ?_
        | refine QV QaA ?_)
      rw [← kRow_0 (aut R tags) now i]
      refine T_pick [0, 1, 2, 3, 5] (by decide) rfl ?_
      refine T_loop (ι := Nat) (fun q => q ≤ 256) (fun q => [(1, .pointer (some ⟨g1, 0, none⟩)), (3, .slice (some ⟨g3, 0, none⟩) R.length R.length), (6, .int .i64 (c : Int)), (7, .map (some gm)), (9, .slice (some ⟨g9, 0, none⟩) R.length R.length), (44, .slice (some ⟨b, off, none⟩) R.length cr), (45, .int .i64 (R.length : Int)), (46, .int .i64 (i : Int)), (10, .int .i64 (i : Int)), (12, .pointer (some ⟨g12, 0, none⟩)), (56, rowV r), (57, .int .i64 (q : Int))])
        (fun q => [blkO g1 (dfaV (.slice (some ⟨b, off, none⟩) R.length cr) (.slice (some ⟨bb, ofT, none⟩) tags.length ct)).cells 26, rowA 3 intV g3 R.length fun j => (now j : Int), mapO kindK gm (mapAt (tabTo (aut R tags) now i)) (tabTo (aut R tags) now i).length, rowA 3 intV g9 R.length fun j => if j < i then (next (aut R tags) now j : Int) else 0, blkO g12 (kindC ((now i : Int), kRow (aut R tags) now i q)).toArray 100]) (fun q => 256 - q) 0 (Nat.zero_le _) (by repeat' (first | exact True.intro | refine And.intro rfl ?_)) rfl ?_
      intro q hq
      by_cases c3 : q < 256
      · have hcell : (rowC r).toArray[q]? = some (.int .i16 r[q]) := by rw [List.getElem?_toArray]; exact rowC_get r c3
        have hdq := hrow q c3
        have hsq := hst q c3
        have hset := kRow_set (aut R tags) now i q c3
        have hskip := kRow_skip (aut R tags) now i q c3
        rw [hdq] at hsq hset hskip
        clear hdq hrow hst
        generalize r[q] = x at *
        unfold St at hsq
        by_cases c4 : x < 0
        · have hv : val now x = 0 := by unfold val; rw [if_pos c4]
          rw [hskip hv]
          repeat (first
            | refine QV QP ?_ | refine QZ ?_ | refine qcT rfl ?_ | refine qcF rfl ?_ | refine E_blockX ?_ | refine E_blockO rfl ?_
            | refine QV (rr_arridx Und.eq TyC.ty rfl rfl c3 hcell) ?_ | refine QV QL ?_ | refine QV QA ?_ | refine QV (rr_not rfl rfl) ?_ | refine QV QlT ?_
            | refine QV QlF ?_ | refine QV QhT ?_ | refine QV QhF ?_ | refine QV QeT ?_ | refine QV QeF ?_ | refine QV QaA ?_)
          exact E_round (q + 1) (by omega) (by show 256 - (q + 1) < 256 - q; omega) (by repeat' (first | exact True.intro | refine And.intro rfl ?_)) rfl
        · obtain ⟨m, rfl⟩ : ∃ m : Nat, x = m := ⟨x.toNat, by omega⟩
          have hm : m < R.length := by omega
          have hlm := hlim m hm
          rw [val_nat] at hset
          repeat (first
            | refine QV QP ?_ | refine QZ ?_ | refine qcT rfl ?_ | refine qcF rfl ?_ | refine E_blockX ?_ | refine E_blockO rfl ?_
            | refine QV (rr_arridx Und.eq TyC.ty rfl rfl c3 hcell) ?_ | refine QV (rr_idx1 Und.eq TyC.ty rfl rfl hm) ?_
            | refine QV (rr_load1 TyC.ty rfl (at_rowA (i := 1) rfl hm)) ?_ | refine QV (rr_conv Und.eq Und.eq rfl (wrap16 (by omega) (by omega))) ?_
            | refine QV (rr_aidx1 Und.eq TyC.ty rfl rfl c3) ?_ | refine QV QL ?_ | refine QV QA ?_ | refine QV (rr_not rfl rfl) ?_ | refine QV QlT ?_
            | refine QV QlF ?_ | refine QV QhT ?_ | refine QV QhF ?_ | refine QV QeT ?_ | refine QV QeF ?_ | refine QV QaA ?_)
          refine TL_storeK (i := 4) rfl rfl rfl c3 ?_
          rw [hset]
          conv => arg 8; simp only [zA, zB, zC, zD, zE, zF, zG, zH, zI, rowS, ret, id_eq]
          repeat (first
            | refine QV QP ?_ | refine QZ ?_ | refine qcT rfl ?_ | refine qcF rfl ?_ | refine E_blockX ?_ | refine E_blockO rfl ?_ | refine QV QL ?_
            | refine QV QA ?_ | refine QV (rr_not rfl rfl) ?_ | refine QV QlT ?_ | refine QV QlF ?_ | refine QV QhT ?_ | refine QV QhF ?_ | refine QV QeT ?_
            | refine QV QeF ?_ | refine QV QaA ?_)
          exact E_round (q + 1) (by omega) (by show 256 - (q + 1) < 256 - q; omega) (by repeat' (first | exact True.intro | refine And.intro rfl ?_)) rfl
      · obtain rfl : q = 256 := by omega
        rw [kRow_all]
        have hok := kind_ok hA hlim (i := i) c2
        by_cases c5 : kind (aut R tags) now i ∈ tabTo (aut R tags) now i
        · obtain ⟨e1, e2⟩ := tab_old (aut R tags) now (i := i) c2 c5
          generalize kind (aut R tags) now i = k at *
          repeat (first
            | refine QV QP ?_ | refine QZ ?_ | refine qcT rfl ?_ | refine qcF rfl ?_ | refine E_blockX ?_ | refine E_blockO rfl ?_
            | refine QV (rr_loadB (i := 4) TyC.ty rfl rfl (by rw [List.size_toArray, kindC_len])) ?_
            | refine QV (rr_lookNumS (K := kindK) (i := 2) (x := k) Und.eq zeroI rfl rfl rfl hok c5) ?_ | refine QV (rr_idx1 Und.eq TyC.ty rfl rfl c2) ?_
            | refine QV QL ?_ | refine QV QA ?_ | refine QV (rr_not rfl rfl) ?_ | refine QV QlT ?_ | refine QV QlF ?_ | refine QV QhT ?_ | refine QV QhF ?_
            | refine QV QeT ?_ | refine QV QeF ?_ | refine QV QaA ?_)
          refine TL_storeA (i := 3) (off := i) (v := (next (aut R tags) now i : Int)) (fun j => if j < i + 1 then (next (aut R tags) now j : Int) else 0) TyC.ty rfl rfl (by rw [e2]; rfl) rfl rfl c2 (fun j hj => ?_) ?_
          · by_cases e : j = i
            · subst e; rw [if_pos (by omega), if_pos rfl]
            · rw [if_neg e]
              have : j < i + 1 ↔ j < i := by omega
              simp only [this]
          conv => arg 8; simp only [zA, zB, zC, zD, zE, zF, zG, zH, zI, rowS, ret, id_eq]
          repeat (first
            | refine QV QP ?_ | refine QZ ?_ | refine qcT rfl ?_ | refine qcF rfl ?_ | refine E_blockX ?_ | refine E_blockO rfl ?_ | refine QV QL ?_
            | refine QV QA ?_ | refine QV (rr_not rfl rfl) ?_ | refine QV QlT ?_ | refine QV QlF ?_ | refine QV QhT ?_ | refine QV QhF ?_ | refine QV QeT ?_
            | refine QV QeF ?_ | refine QV QaA ?_)
          refine E_pick [0, 1, 2, 3] (by decide) rfl ?_
          exact E_round (i + 1) (by omega) (by show R.length - (i + 1) < R.length - i; omega) (by repeat' (first | exact True.intro | refine And.intro rfl ?_)) (by rw [e1]; rfl)
        · obtain ⟨e1, e2⟩ := tab_new (aut R tags) now (i := i) c2 c5
          have hle' := tabTo_le (aut R tags) now i
          rw [en] at hle'
          generalize kind (aut R tags) now i = k at *
          repeat (first
            | refine QV QP ?_ | refine QZ ?_ | refine qcT rfl ?_ | refine qcF rfl ?_ | refine E_blockX ?_ | refine E_blockO rfl ?_
            | refine QV (rr_loadB (i := 4) TyC.ty rfl rfl (by rw [List.size_toArray, kindC_len])) ?_
            | refine QV (rr_lookNumN (K := kindK) (i := 2) (x := k) Und.eq zeroI rfl rfl rfl hok c5) ?_ | refine QV (rr_maplen kindK Und.eq (i := 2) rfl rfl) ?_
            | refine QV QL ?_ | refine QV QA ?_ | refine QV (rr_not rfl rfl) ?_ | refine QV QlT ?_ | refine QV QlF ?_ | refine QV QhT ?_ | refine QV QhF ?_
            | refine QV QeT ?_ | refine QV QeF ?_ | refine QV QaA ?_)
          refine TL_mapNum (K := kindK) (i := 2) (x := k) Und.eq rfl rfl rfl rfl hok c5 (by omega) ?_
          conv => arg 8; simp only [zA, zB, zC, zD, zE, zF, zG, zH, zI, rowS, ret, id_eq]
          repeat (first
            | refine QV QP ?_ | refine QZ ?_ | refine qcT rfl ?_ | refine qcF rfl ?_ | refine E_blockX ?_ | refine E_blockO rfl ?_
            | refine QV (rr_idx1 Und.eq TyC.ty rfl rfl c2) ?_ | refine QV QL ?_ | refine QV QA ?_ | refine QV (rr_not rfl rfl) ?_ | refine QV QlT ?_
            | refine QV QlF ?_ | refine QV QhT ?_ | refine QV QhF ?_ | refine QV QeT ?_ | refine QV QeF ?_ | refine QV QaA ?_)
          refine TL_storeA (i := 3) (off := i) (v := (next (aut R tags) now i : Int)) (fun j => if j < i + 1 then (next (aut R tags) now j : Int) else 0) TyC.ty rfl rfl (by rw [e2]; rfl) rfl rfl c2 (fun j hj => ?_) ?_
          · by_cases e : j = i
            · subst e; rw [if_pos (by omega), if_pos rfl]
            · rw [if_neg e]
              have : j < i + 1 ↔ j < i := by omega
              simp only [this]
          conv => arg 8; simp only [zA, zB, zC, zD, zE, zF, zG, zH, zI, rowS, ret, id_eq]
          repeat (first
            | refine QV QP ?_ | refine QZ ?_ | refine qcT rfl ?_ | refine qcF rfl ?_ | refine E_blockX ?_ | refine E_blockO rfl ?_ | refine QV QL ?_
            | refine QV QA ?_ | refine QV (rr_not rfl rfl) ?_ | refine QV QlT ?_ | refine QV QlF ?_ | refine QV QhT ?_ | refine QV QhF ?_ | refine QV QeT ?_
            | refine QV QeF ?_ | refine QV QaA ?_)
          refine E_pick [0, 1, 2, 3] (by decide) rfl ?_
          exact E_round (i + 1) (by omega) (by show R.length - (i + 1) < R.length - i; omega) (by repeat' (first | exact True.intro | refine And.intro rfl ?_)) (by rw [e1]; rfl)
    · obtain rfl : i = R.length := by omega
      rw [show tabTo (aut R tags) now R.length = tab (aut R tags) now from tabTo_all (aut R tags) now]
      rw [rowA_congr (f' := fun j => (next (aut R tags) now j : Int)) fun j hj => if_pos hj]
      by_cases c6 : (tab (aut R tags) now).length = c
      · rw [hend c6]
        repeat (first
          | refine QV QP ?_ | refine QZ ?_ | refine qcT rfl ?_ | refine qcF rfl ?_ | refine E_blockX ?_ | refine E_blockO rfl ?_
          | refine QV (rr_maplen kindK Und.eq (i := 2) rfl rfl) ?_ | refine QV (rr_eql (b := true) rfl rfl (decide_eq_true (by omega))) ?_ | refine QV QL ?_
          | refine QV QA ?_ | refine QV (rr_not rfl rfl) ?_ | refine QV QlT ?_ | refine QV QlF ?_ | refine QV QhT ?_ | refine QV QhF ?_ | refine QV QeT ?_
          | refine QV QeF ?_ | refine QV QaA ?_)
        exact E_ret1 rfl rfl fun w hm => hm.meets (S := ⟨fun _ => True, fun (g : Nat) => .slice (some ⟨g, 0, none⟩) R.length R.length, fun g => [rowA 3 intV g R.length fun i => (next (aut R tags) now i : Int)]⟩) g9 trivial [3] (by decide) rfl
      · repeat (first
          | refine QV QP ?_ | refine QZ ?_ | refine qcT rfl ?_ | refine qcF rfl ?_ | refine E_blockX ?_ | refine E_blockO rfl ?_
          | refine QV (rr_maplen kindK Und.eq (i := 2) rfl rfl) ?_ | refine QV (rr_eql (b := false) rfl rfl (decide_eq_false (by omega))) ?_ | refine QV QL ?_
          | refine QV QA ?_ | refine QV (rr_not rfl rfl) ?_ | refine QV QlT ?_ | refine QV QlF ?_ | refine QV QhT ?_ | refine QV QhF ?_ | refine QV QeT ?_
          | refine QV QeF ?_ | refine QV QaA ?_)
        refine E_pick [0, 3] (by decide) rfl ?_
        exact E_round (f', (tab (aut R tags) now).length, next (aut R tags) now, g9) (hgo c6) (Nat.lt_succ_self f') (by repeat' (first | exact True.intro | refine And.intro rfl ?_)) rfl
end Go.Proofs.YtkcnoompimohnaaDoor.eng

/- SmD -/
namespace Go.Proofs.YtkcnoompimohnaaDoor.eng
open Go.RowKit kit mix dfaL smallL
theorem chkM_calls (vr vt : Value) (R : List Row) (tags : List Int) (w : World) (h : DfaM w vr vt R tags) : Calls Tryd.prog 22 #[dfaV vr vt] w (Meets (ret (.int .i64 (chk R tags))) w) := dfaCheck_calls _ _ _ w h.isDfa
end Go.Proofs.YtkcnoompimohnaaDoor.eng

/- SmX -/
namespace Go.Proofs.YtkcnoompimohnaaDoor.eng
open Go.RowKit kit mix dfaL smallL
def minR (R : List Row) (tags : List Int) : List Row := if chk R tags = 0 then (minF (aut R tags) (blocksF (aut R tags))).2 else []
def minT (R : List Row) (tags : List Int) : List Int := if chk R tags = 0 then (minF (aut R tags) (blocksF (aut R tags))).1.map (aut R tags).tag else []
theorem min_len {R : List Row} {tags : List Int} (h : chk R tags = 0) : (minR R tags).length = (minT R tags).length ∧ (minR R tags).length = (minA (aut R tags)).n := by
  obtain ⟨hA, _⟩ := chk_ok h
  have := (min_ok (bl := blocksF (aut R tags)) hA).2.len
  unfold minR minT
  rw [if_pos h, if_pos h, List.length_map]
  exact ⟨this, this⟩
theorem min_aut {R : List Row} {tags : List Int} (h : chk R tags = 0) : aut (minR R tags) (minT R tags) = minA (aut R tags) := by
  have hl := (min_len h).2
  have e1 : minR R tags = (minF (aut R tags) (blocksF (aut R tags))).2 := if_pos h
  have e2 : minT R tags = (minF (aut R tags) (blocksF (aut R tags))).1.map (aut R tags).tag := if_pos h
  show Aut.mk (minR R tags).length _ _ = _
  rw [hl]
  rw [e1, e2]
  rfl
theorem min_chk {R : List Row} {tags : List Int} (h : chk R tags = 0) : chk (minR R tags) (minT R tags) = 0 := by
  refine ok_chk ?_ (min_len h).1.symm
  rw [min_aut h]
  exact minA_ok (chk_ok h).1
/-- numbers of blocks -/
def numF (bl : Nat → Nat) (Q : List Nat) (b : Nat) : Int := if b ∈ Q.map bl then (idx (Q.map bl) b : Int) + 1 else 0
theorem numF_add {bl : Nat → Nat} {Q : List Nat} {q : Nat} (hn : bl q ∉ Q.map bl) (b : Nat) : numF bl (Q ++ [q]) b = if b = bl q then (Q.length : Int) + 1 else numF bl Q b := by
  unfold numF
  rw [List.map_append, List.map_singleton]
  by_cases c : b = bl q
  · subst c
    rw [if_pos (by simp), if_pos rfl]
    have := idx_more (D := Q.map bl) (k := bl q)
    unfold more at this
    rw [if_neg hn, if_neg hn] at this
    rw [this, List.length_map]
  · rw [if_neg c]
    by_cases c2 : b ∈ Q.map bl
    · rw [if_pos c2, if_pos (List.mem_append_left _ c2), idx_pre c2]
    · rw [if_neg c2, if_neg]
      rw [List.mem_append, List.mem_singleton]
      rintro (h | h)
      · exact c2 h
      · exact c h
/-- a row, so far -/
def mRow (l : List Int) : Row := Vector.ofFn fun b : Fin 256 => if b < l.length then l.getD b 0 else -1
theorem mRow_nil : mRow [] = Vector.replicate 256 (-1) := by
  refine Vector.ext fun j hj => ?_
  unfold mRow; simp
theorem mRow_all {l : List Int} (h : l.length = 256) : mRow l = vec l := by
  refine Vector.ext fun j hj => ?_
  unfold mRow vec; simp [h, hj]
theorem mRow_set (l : List Int) (x : Int) (h : l.length < 256) : (mRow l).set l.length x = mRow (l ++ [x]) := by
  refine Vector.ext fun j hj => ?_
  unfold mRow
  rw [Vector.getElem_set, Vector.getElem_ofFn, Vector.getElem_ofFn]
  simp only [List.length_append, List.length_singleton]
  split
  · rename_i e; subst e
    rw [if_pos (by omega), getD_right (Nat.le_refl _), Nat.sub_self]; rfl
  · by_cases c : j < l.length
    · rw [if_pos c, if_pos (by omega), getD_left c]
    · rw [if_neg c, if_neg (by omega)]
theorem mRow_skip (l : List Int) (h : l.length < 256) : mRow (l ++ [-1]) = mRow l := by
  rw [← mRow_set l (-1) h]
  refine Vector.ext fun j hj => ?_
  rw [Vector.getElem_set]
  split
  · rename_i e; subst e; unfold mRow; simp
  · rfl
/-- on the way of small.Minimal -/
structure MWay (R : List Row) (tags : List Int) (f n : Nat) (Q : List Nat) (out : List Row) : Prop where
  eq : minF (aut R tags) (blocksF (aut R tags)) = minGo (aut R tags) (blocksF (aut R tags)) f n Q out
  ok : QOk (aut R tags) (blocksF (aut R tags)) Q
  outs : Outs (aut R tags) (blocksF (aut R tags)) n Q out
  fuel : (aut R tags).n + 1 ≤ f + n
theorem mway0 {R : List Row} {tags : List Int} (hA : (aut R tags).Ok) : MWay R tags (R.length + 1) 0 [0] [] := ⟨rfl, qok0 hA, ⟨rfl, Nat.zero_le _, fun k hk => by omega⟩, Nat.le_refl _⟩
theorem mway_next {R : List Row} {tags : List Int} (hA : (aut R tags).Ok) {f n : Nat} {Q : List Nat} {out : List Row} (h : MWay R tags f n Q out) (hn : n < Q.length) : ∃ f', f = f' + 1 ∧ MWay R tags f' (n + 1) (rowQ (aut R tags) (blocksF (aut R tags)) (Q.getD n 0) Q 256).1 (out ++ [vec (rowQ (aut R tags) (blocksF (aut R tags)) (Q.getD n 0) Q 256).2]) := by
  have h1 := h.ok.len
  have h2 := h.fuel
  obtain ⟨f', rfl⟩ : ∃ f', f = f' + 1 := ⟨f - 1, by omega⟩
  have e := h.eq
  unfold minGo at e
  rw [if_pos hn] at e
  exact ⟨f', rfl, e, qok_row hA h.ok (h.ok.lt _ (getD_mem hn)) 256 (Nat.le_refl _), outs_step hA h.outs hn, by omega⟩
theorem mway_end {R : List Row} {tags : List Int} {f n : Nat} {Q : List Nat} {out : List Row} (h : MWay R tags f n Q out) (hn : ¬ n < Q.length) : minF (aut R tags) (blocksF (aut R tags)) = (Q, out) ∧ n = Q.length := by
  have h1 := h.outs.le
  refine ⟨?_, by omega⟩
  rw [h.eq]
  cases f with
  | zero => rfl
  | succ f => unfold minGo; rw [if_neg hn]
def minS (R : List Row) (tags : List Int) : Spec (Value × Value) := ⟨fun _ => True, fun x => .tuple #[dfaV x.1 x.2, .int .i64 (chk R tags)], fun x => [rowO 73 256 x.1 (minR R tags).length ((minR R tags).flatMap rowC), rowO 3 1 x.2 (minT R tags).length ((minT R tags).flatMap kit.intC)]⟩
theorem build_dfa0 (w : World) : (Instr.build 26 #[]).run Tryd.prog w = .ok (dfaV (.slice none 0 0) (.slice none 0 0)) w := by kernel_rfl
set_option maxRecDepth 100000 in
set_option maxHeartbeats 8000000 in
theorem minimal_calls (vr vt : Value) (R : List Row) (tags : List Int) (w : World) (h : DfaM w vr vt R tags) :
    Calls Tryd.prog 11 #[dfaV vr vt] w (Meets (minS R tags) w) := by
  have hck := fun w' (hg : Gr w w') => chkM_calls vr vt R tags w' (h.gr hg)
  have hbl := fun w' (hg : Gr w w') hc => blocks_calls vr vt R tags w' (h.gr hg) hc
  obtain ⟨bt, ct, rfl, ht1, ht2, ht3⟩ := h.hT
  obtain ⟨br, cr, rfl, hr1, hr2, hr3⟩ := h.hR
  have hrng := h.rng
  unfold maxLen at hr2 ht2
  clear h
  by_cases hc : chk R tags = 0
  · obtain ⟨hA, hlt⟩ := chk_ok hc
    have hbo := blocks_of hA
    have en : (aut R tags).n = R.length := rfl
    have hpos : 0 < R.length := hA.pos
    have hle : R.length ≤ 200 := hA.le
    obtain ⟨b, off, rfl, hr⟩ := hr3 hpos
    obtain ⟨bb, ofT, rfl, hrt⟩ := ht3 (by omega)
    clear hr3 ht3
    unfold minS
    have er : minR R tags = (minF (aut R tags) (blocksF (aut R tags))).2 := if_pos hc
    have et : minT R tags = (minF (aut R tags) (blocksF (aut R tags))).1.map (aut R tags).tag := if_pos hc
    rw [er, et]
    clear er et
    have hbl0 := hbo.le 0 hpos
    rw [en] at hbl0
    rw [hc] at hck ⊢
    refine enter (args := [dfaV (.slice (some ⟨b, off, none⟩) R.length cr) (.slice (some ⟨bb, ofT, none⟩) tags.length ct)]) (n := 113) Tryd.func11 rfl rfl rfl ?_
    refine T_seq (T_region (TL_box rfl rfl rfl fun g1 => ?_))
    refine TL_new rfl fun g2 => ?_
    conv => arg 8; simp only [zA, zB, zC, zD, zE, zF, zG, zH, zI, rowS, ret, id_eq]
    repeat (first
      | refine QV QP ?_ | refine QZ ?_ | refine qcT rfl ?_ | refine qcF rfl ?_ | refine E_blockX ?_ | refine E_blockO rfl ?_
      | refine qs rfl rfl rfl rfl rfl rfl ?_
      | ((try refine qg rfl rfl rfl ?_); first | refine QV QP ?_ | refine QV (rr_load1 TyC.ty rfl (at_blk (i := 0) rfl rfl)) ?_ | refine QV (rr_loadB (i := 0) TyC.ty rfl rfl rfl) ?_ | refine QV QL ?_ | refine QV QA ?_ | refine QV QlT ?_ | refine QV QlF ?_ | refine QV QeT ?_ | refine QV QeF ?_ | refine QV QnT ?_ | refine QV QnF ?_ | refine QV QaA ?_ | refine QV QaS ?_))
    refine TL_call (he1 EntersC.en rfl rfl) (fun w hm => hck _ hm.below) rfl rfl rfl ?_
    intro _ _
    repeat (first
      | refine QV QP ?_ | refine QZ ?_ | refine qcT rfl ?_ | refine qcF rfl ?_ | refine E_blockX ?_ | refine E_blockO rfl ?_
      | refine qs rfl rfl rfl rfl rfl rfl ?_
      | ((try refine qg rfl rfl rfl ?_); first | refine QV QP ?_ | refine QV (rr_loadB (i := 0) TyC.ty rfl rfl rfl) ?_ | refine QV QL ?_ | refine QV QA ?_ | refine QV QlT ?_ | refine QV QlF ?_ | refine QV QeT ?_ | refine QV QeF ?_ | refine QV QnT ?_ | refine QV QnF ?_ | refine QV QaA ?_ | refine QV QaS ?_))
    refine TL_call (he1 EntersC.en rfl rfl) (fun w hm => hbl _ hm.below hc) rfl rfl rfl ?_
    intro g5 _
    conv => arg 8; simp only [zA, zB, zC, zD, zE, zF, zG, zH, zI, rowS, ret, id_eq]
    repeat (first
      | refine QV QP ?_ | refine QZ ?_ | refine qcT rfl ?_ | refine qcF rfl ?_ | refine E_blockX ?_ | refine E_blockO rfl ?_
      | refine qs rfl rfl rfl rfl rfl rfl ?_
      | ((try refine qg rfl rfl rfl ?_); first | refine QV QP ?_ | refine QV (rr_load1 TyC.ty rfl (at_blk (i := 0) rfl rfl)) ?_ | refine QV QL ?_ | refine QV QA ?_ | refine QV QlT ?_ | refine QV QlF ?_ | refine QV QeT ?_ | refine QV QeF ?_ | refine QV QnT ?_ | refine QV QnF ?_ | refine QV QaA ?_ | refine QV QaS ?_))
    refine TL_makeA (m := R.length + 1) intV 0 (by rfl) (by rfl) (by omega) (by omega) rfl fun g6 => ?_
    conv => arg 8; simp only [zA, zB, zC, zD, zE, zF, zG, zH, zI, rowS, ret, id_eq]
    repeat (first
      | refine QV QP ?_ | refine QZ ?_ | refine qcT rfl ?_ | refine qcF rfl ?_ | refine E_blockX ?_ | refine E_blockO rfl ?_
      | refine qs rfl rfl rfl rfl rfl rfl ?_
      | ((try refine qg rfl rfl rfl ?_); first | refine QV QP ?_ | refine QV QL ?_ | refine QV QA ?_ | refine QV QlT ?_ | refine QV QlF ?_ | refine QV QeT ?_ | refine QV QeF ?_ | refine QV QnT ?_ | refine QV QnF ?_ | refine QV QaA ?_ | refine QV QaS ?_))
    refine TL_new rfl fun g7 => ?_
    conv => arg 8; simp only [zA, zB, zC, zD, zE, zF, zG, zH, zI, rowS, ret, id_eq]
    repeat (first
      | refine QV QP ?_ | refine QZ ?_ | refine qcT rfl ?_ | refine qcF rfl ?_ | refine E_blockX ?_ | refine E_blockO rfl ?_
      | refine qs rfl rfl rfl rfl rfl rfl ?_
      | ((try refine qg rfl rfl rfl ?_); first | refine QV QP ?_ | refine QV QL ?_ | refine QV QA ?_ | refine QV QlT ?_ | refine QV QlF ?_ | refine QV QeT ?_ | refine QV QeF ?_ | refine QV QnT ?_ | refine QV QnF ?_ | refine QV QaA ?_ | refine QV QaS ?_))
    refine TL_one rfl rfl rfl rfl rfl fun g8 => ?_
    conv => arg 8; simp only [zA, zB, zC, zD, zE, zF, zG, zH, zI, rowS, ret, id_eq]
    refine TL_toRow (i := 5) (m := 1) 1 rfl rfl (by decide) ?_
    conv => arg 8; simp only [zA, zB, zC, zD, zE, zF, zG, zH, zI, rowS, ret, id_eq]
    repeat (first
      | refine QV QP ?_ | refine QZ ?_ | refine qcT rfl ?_ | refine qcF rfl ?_ | refine E_blockX ?_ | refine E_blockO rfl ?_
      | refine qs rfl rfl rfl rfl rfl rfl ?_
      | ((try refine qg rfl rfl rfl ?_); first | refine QV QP ?_ | refine QV (rr_idx1 (j := 0) Und.eq TyC.ty rfl rfl hpos) ?_ | refine QV (rr_load1 TyC.ty rfl (at_rowA (i := 2) rfl hpos)) ?_ | refine QV (rr_idx1 (j := blocksF (aut R tags) 0) Und.eq TyC.ty rfl rfl (by omega)) ?_ | refine QV QL ?_ | refine QV QA ?_ | refine QV QlT ?_ | refine QV QlF ?_ | refine QV QeT ?_ | refine QV QeF ?_ | refine QV QnT ?_ | refine QV QnF ?_ | refine QV QaA ?_ | refine QV QaS ?_))
    refine TL_storeA (i := 3) (off := blocksF (aut R tags) 0) (v := 1) (numF (blocksF (aut R tags)) [0]) TyC.ty rfl rfl rfl rfl rfl (by omega) (fun j hj => ?_) ?_
    · by_cases e : j = blocksF (aut R tags) 0
      · subst e; simp [numF, idx]
      · rw [if_neg e]; unfold numF; rw [if_neg (by simpa using e)]
    conv => arg 8; simp only [zA, zB, zC, zD, zE, zF, zG, zH, zI, rowS, ret, id_eq]
    repeat (first
      | refine QV QP ?_ | refine QZ ?_ | refine qcT rfl ?_ | refine qcF rfl ?_ | refine E_blockX ?_ | refine E_blockO rfl ?_
      | refine qs rfl rfl rfl rfl rfl rfl ?_
      | ((try refine qg rfl rfl rfl ?_); first | refine QV QP ?_ | refine QV QL ?_ | refine QV QA ?_ | refine QV QlT ?_ | refine QV QlF ?_ | refine QV QeT ?_ | refine QV QeF ?_ | refine QV QnT ?_ | refine QV QnF ?_ | refine QV QaA ?_ | refine QV QaS ?_))
    refine T_nil 73 256 ?_
    refine T_nil 3 1 ?_
    conv => arg 7; simp only [zA, zB, zC, zD, zE, zF, zG, zH, zI, rowS, ret, id_eq]
    have hstart := mway0 (tags := tags) hA
    have hfin := fun f n Q out => @mway_end R tags f n Q out
    have hnext := fun f n Q out => @mway_next R tags hA f n Q out
    have hble := hbo.le
    clear hbl0 hbo hbl hck
    generalize hBLK : blocksF (aut R tags) = BLK at *
    refine T_loop (ι := Nat × Nat × List Nat × List Row × Value × Value × Value) (fun (f, n, Q, out, _) => MWay R tags f n Q out) (fun (_, n, _, _, vQ, _, _) => [(1, .pointer (some ⟨g1, 0, none⟩)), (2, .pointer (some ⟨g2, 0, none⟩)), (5, .slice (some ⟨g5, 0, none⟩) R.length R.length), (6, .slice (some ⟨g6, 0, none⟩) (R.length + 1) (R.length + 1)), (7, .pointer (some ⟨g7, 0, none⟩)), (8, vQ), (9, .int .i64 (n : Int))])
      (fun (_, n, Q, out, vQ, vR, vT) => [blkO g1 (dfaV (.slice (some ⟨b, off, none⟩) R.length cr) (.slice (some ⟨bb, ofT, none⟩) tags.length ct)).cells 26, blkO g2 (dfaV (.slice none 0 0) (.slice none 0 0)).cells 26, rowA 3 intV g5 R.length fun i => (BLK i : Int), rowA 3 intV g6 (R.length + 1) (numF BLK Q), blkO g7 (dfaV vR vT).cells 26, rowO 3 1 vQ Q.length (Q.map fun q : Nat => intV q), rowO 73 256 vR out.length (out.flatMap rowC), rowO 3 1 vT n (((Q.take n).map (aut R tags).tag).flatMap kit.intC)]) (fun (f, _) => f) (R.length + 1, 0, [0], [], .slice (some ⟨g8, 0, none⟩) 1 1, .slice none 0 0, .slice none 0 0) hstart (by repeat' (first | exact True.intro | refine And.intro rfl ?_)) rfl ?_
    rintro ⟨f, n, Q, out, vQ, vR, vT⟩ hw
    dsimp only at hw ⊢
    have hQ := hw.ok
    have hQl := hQ.len
    have hout := hw.outs.len
    rw [hBLK] at hQ
    rw [en] at hQl
    by_cases c1 : n < Q.length
    · obtain ⟨f', rfl, hw'⟩ := hnext _ _ _ _ hw c1
      have hq := hQ.lt _ (getD_mem c1)
      have hqc : (Q.map fun q : Nat => intV q)[0 + n]? = some (intV (Q.getD n 0)) := by rw [Nat.zero_add, List.getElem?_map, List.getD_eq_getElem?_getD, List.getElem?_eq_getElem c1]; rfl
      rw [en] at hq
      have hall := smAll_calls (-1)
      have hrw := fun k hk => qok_row (bl := BLK) hA hQ (q := Q.getD n 0) (by rw [en]; exact hq) k hk
      have hpre := row_pre (A := aut R tags) (bl := BLK) (Q.getD n 0) Q
      have hrl := row_len (A := aut R tags) (bl := BLK) (Q.getD n 0) Q
      have hst : ∀ k, k < 256 → St (aut R tags) ((aut R tags).d (Q.getD n 0) k) := fun k hk => hA.step _ hq k hk
      have hd : ∀ (k : Nat) (hk : k < 256), (aut R tags).d (Q.getD n 0) k = (R[Q.getD n 0]'hq)[k] := fun k hk => aut_d hq hk
      have hqtags : Q.getD n 0 < tags.length := by omega
      have htg : (aut R tags).tag (Q.getD n 0) = tags[Q.getD n 0]'hqtags := aut_tag hqtags
      have hatR := fun (L : List Own) => at_el (W := w) (L := L) rowC_len hr hq
      have hatT := fun (L : List Own) => at_el (W := w) (L := L) (c := 1) (f := kit.intC) (fun _ => rfl) hrt hqtags 0 _ rfl
      have hQn : Q.getD n 0 = Q[n] := by rw [List.getD_eq_getElem?_getD, List.getElem?_eq_getElem c1]; rfl
      clear hfin hnext hw
      generalize hqq : Q.getD n 0 = q at *
      generalize hrr : R[q] = r at *
      repeat (first
        | refine QV QP ?_ | refine QZ ?_ | refine qcT rfl ?_ | refine qcF rfl ?_ | refine E_blockX ?_ | refine E_blockO rfl ?_
        | refine qs rfl rfl rfl rfl rfl rfl ?_
        | ((try refine qg rfl rfl rfl ?_); first | refine QV QP ?_ | refine QV (rr_rowlen (i := 5) Und.eq rfl rfl) ?_ | refine QV QL ?_ | refine QV QA ?_ | refine QV QlT ?_ | refine QV QlF ?_ | refine QV QeT ?_ | refine QV QeF ?_ | refine QV QnT ?_ | refine QV QnF ?_ | refine QV QaA ?_ | refine QV QaS ?_))
      refine TL_call (he1 EntersC.en rfl rfl) (fun w hm => hall _) rfl rfl rfl ?_
      intro _ _
      repeat (first
        | refine QV QP ?_ | refine QZ ?_ | refine qcT rfl ?_ | refine qcF rfl ?_ | refine E_blockX ?_ | refine E_blockO rfl ?_
        | refine qs rfl rfl rfl rfl rfl rfl ?_
        | ((try refine qg rfl rfl rfl ?_); first | refine QV QP ?_ | refine QV QL ?_ | refine QV QA ?_ | refine QV QlT ?_ | refine QV QlF ?_ | refine QV QeT ?_ | refine QV QeF ?_ | refine QV QnT ?_ | refine QV QnF ?_ | refine QV QaA ?_ | refine QV QaS ?_))
      refine TL_new rfl fun g10 => ?_
      conv => arg 8; simp only [zA, zB, zC, zD, zE, zF, zG, zH, zI, rowS, ret, id_eq]
      refine TL_storeB (i := 8) (cs' := (rowC (Vector.replicate 256 (-1))).toArray) rfl rfl rfl (by rw [List.size_toArray, rowC_len]) (by simpa using row_one1 (Vector.replicate 256 (-1))) (by kernel_rfl) ?_
      conv => arg 8; simp only [zA, zB, zC, zD, zE, zF, zG, zH, zI, rowS, ret, id_eq]
      repeat (first
        | refine QV QP ?_ | refine QZ ?_ | refine qcT rfl ?_ | refine qcF rfl ?_ | refine E_blockX ?_ | refine E_blockO rfl ?_
        | refine qs rfl rfl rfl rfl rfl rfl ?_
        | ((try refine qg rfl rfl rfl ?_); first | refine QV QP ?_ | refine QV QL ?_ | refine QV QA ?_ | refine QV QlT ?_ | refine QV QlF ?_ | refine QV QeT ?_ | refine QV QeF ?_ | refine QV QnT ?_ | refine QV QnF ?_ | refine QV QaA ?_ | refine QV QaS ?_))
      refine T_rowN (i := 5) rfl (by omega) fun gQ cQ hv hcQ hcQ2 => ?_
      subst hv
      (repeat refine T_seq ?_)
      refine T_ord ([blkO g1 (dfaV (.slice (some ⟨b, off, none⟩) R.length cr) (.slice (some ⟨bb, ofT, none⟩) tags.length ct)).cells 26, rowO 3 1 (.slice (some ⟨gQ, 0, none⟩) Q.length cQ) Q.length (Q.map fun q : Nat => intV q)]) (.calm 0 (.calm 1 (.calm 2 (.calm 3 (.calm 4 (.calm 5 (.calm 6 (.calm 7 (.calm 8 (.done)))))))))) (sub_pick [0, 5] (by decide) rfl) (by kernel_rfl) (by kernel_rfl) (by intro c a d v w h; cases d <;> exact h) ?_
      repeat (first
        | ((first | refine TW_plain rfl rfl ?_ | refine TW_gmet rfl rfl rfl rfl ?_); first | refine QW QP ?_ | refine QW (rr_load1 TyC.ty rfl (at_blk (i := 0) rfl rfl)) ?_ | refine QW (rr_idx1 (j := n) Und.eq TyC.ty rfl rfl c1) ?_ | refine QW (rr_load1 TyC.ty rfl (at_row (i := 1) rfl hqc)) ?_ | refine QW (rr_idxc (j := q) Und.eq TyC.ty rfl rfl hq) ?_ | refine QW (rr_loadN TyC.ty rfl (rowC_len r) (hatR _)) ?_ | refine QW QL ?_ | refine QW QA ?_ | refine QW QlT ?_ | refine QW QlF ?_ | refine QW QeT ?_ | refine QW QeF ?_ | refine QW QnT ?_ | refine QW QnF ?_ | refine QW QaA ?_ | refine QW QaS ?_)
        | refine TW_skip rfl rfl rfl rfl rfl rfl rfl ?_ | refine TW_done ?_)
      repeat (first
        | refine QV QP ?_ | refine QZ ?_ | refine qcT rfl ?_ | refine qcF rfl ?_ | refine E_blockX ?_ | refine E_blockO rfl ?_
        | refine qs rfl rfl rfl rfl rfl rfl ?_
        | ((try refine qg rfl rfl rfl ?_); first | refine QV QP ?_ | refine QV QL ?_ | refine QV QA ?_ | refine QV QlT ?_ | refine QV QlF ?_ | refine QV QeT ?_ | refine QV QeF ?_ | refine QV QnT ?_ | refine QV QnF ?_ | refine QV QaA ?_ | refine QV QaS ?_))
      rw [← mRow_nil]
      refine T_pick [0, 1, 2, 3, 4, 6, 7, 8, 5] (by decide) rfl ?_
      refine T_loop (ι := Nat × Value) (fun (k, _) => k ≤ 256) (fun (k, vK) => [(1, .pointer (some ⟨g1, 0, none⟩)), (2, .pointer (some ⟨g2, 0, none⟩)), (5, .slice (some ⟨g5, 0, none⟩) R.length R.length), (6, .slice (some ⟨g6, 0, none⟩) (R.length + 1) (R.length + 1)), (7, .pointer (some ⟨g7, 0, none⟩)), (8, vK), (9, .int .i64 (n : Int)), (10, .pointer (some ⟨g10, 0, none⟩)), (46, rowV r), (47, .int .i64 (k : Int))])
        (fun (k, vK) => [blkO g1 (dfaV (.slice (some ⟨b, off, none⟩) R.length cr) (.slice (some ⟨bb, ofT, none⟩) tags.length ct)).cells 26, blkO g2 (dfaV (.slice none 0 0) (.slice none 0 0)).cells 26, rowA 3 intV g5 R.length fun i => (BLK i : Int), rowA 3 intV g6 (R.length + 1) (numF BLK (rowQ (aut R tags) BLK q Q k).1), blkO g7 (dfaV vR vT).cells 26, rowO 73 256 vR out.length (out.flatMap rowC), rowO 3 1 vT n (((Q.take n).map (aut R tags).tag).flatMap kit.intC), blkO g10 (rowC (mRow (rowQ (aut R tags) BLK q Q k).2)).toArray 73, rowO 3 1 vK (rowQ (aut R tags) BLK q Q k).1.length ((rowQ (aut R tags) BLK q Q k).1.map fun q : Nat => intV q)]) (fun (k, _) => 256 - k) (0, .slice (some ⟨gQ, 0, none⟩) Q.length cQ) (Nat.zero_le _) (by repeat' (first | exact True.intro | refine And.intro rfl ?_)) rfl ?_
      rintro ⟨k, vK⟩ hk
      dsimp only at hk ⊢
      by_cases c2 : k < 256
      · have hcell : (rowC r).toArray[k]? = some (.int .i16 r[k]) := by rw [List.getElem?_toArray]; exact rowC_get r c2
        have hx := hd k c2
        have hsx := hst k c2
        have hok := hrw k hk
        have hlen := hrl k
        have hokn := (qok_step hok hsx).len
        have hnext : rowQ (aut R tags) BLK q Q (k + 1) = ((stepQ BLK (rowQ (aut R tags) BLK q Q k).1 ((aut R tags).d q k)).1, (rowQ (aut R tags) BLK q Q k).2 ++ [(stepQ BLK (rowQ (aut R tags) BLK q Q k).1 ((aut R tags).d q k)).2]) := rfl
        rw [hx] at hnext hsx hokn
        clear hx hst hrw hpre hrl hd hatR hatT
        generalize r[k] = x at *
        generalize rowQ (aut R tags) BLK q Q k = RQ at *
        obtain ⟨Qk, vk⟩ := RQ
        dsimp only at hok hlen hokn hnext ⊢
        subst hlen
        unfold St at hsx
        rw [en] at hsx
        by_cases c3 : val BLK x = 0
        · have e : stepQ BLK Qk x = (Qk, -1) := by unfold stepQ; rw [if_pos c3]
          rw [e] at hnext
          have hRound : ∀ (S : List Own), S = [blkO g1 (dfaV (.slice (some ⟨b, off, none⟩) R.length cr) (.slice (some ⟨bb, ofT, none⟩) tags.length ct)).cells 26, blkO g2 (dfaV (.slice none 0 0) (.slice none 0 0)).cells 26, rowA 3 intV g5 R.length fun i => (BLK i : Int), rowA 3 intV g6 (R.length + 1) (numF BLK Qk), blkO g7 (dfaV vR vT).cells 26, rowO 73 256 vR out.length (out.flatMap rowC), rowO 3 1 vT n (((Q.take n).map (aut R tags).tag).flatMap kit.intC), blkO g10 (rowC (mRow vk)).toArray 73, rowO 3 1 vK Qk.length (Qk.map fun q : Nat => intV q)] → S = [blkO g1 (dfaV (.slice (some ⟨b, off, none⟩) R.length cr) (.slice (some ⟨bb, ofT, none⟩) tags.length ct)).cells 26, blkO g2 (dfaV (.slice none 0 0) (.slice none 0 0)).cells 26, rowA 3 intV g5 R.length fun i => (BLK i : Int), rowA 3 intV g6 (R.length + 1) (numF BLK (rowQ (aut R tags) BLK q Q (vk.length + 1)).1), blkO g7 (dfaV vR vT).cells 26, rowO 73 256 vR out.length (out.flatMap rowC), rowO 3 1 vT n (((Q.take n).map (aut R tags).tag).flatMap kit.intC), blkO g10 (rowC (mRow (rowQ (aut R tags) BLK q Q (vk.length + 1)).2)).toArray 73, rowO 3 1 vK (rowQ (aut R tags) BLK q Q (vk.length + 1)).1.length ((rowQ (aut R tags) BLK q Q (vk.length + 1)).1.map fun q : Nat => intV q)] := fun S h => by
            rw [hnext]; dsimp only; rw [mRow_skip vk c2]; exact h
          by_cases c4 : x < 0
          · repeat (first
              | refine QV QP ?_ | refine QZ ?_ | refine qcT rfl ?_ | refine qcF rfl ?_ | refine E_blockX ?_ | refine E_blockO rfl ?_
              | refine qs rfl rfl rfl rfl rfl rfl ?_
              | ((try refine qg rfl rfl rfl ?_); first | refine QV QP ?_ | refine QV (rr_arridx Und.eq TyC.ty rfl rfl c2 hcell) ?_ | refine QV QL ?_ | refine QV QA ?_ | refine QV QlT ?_ | refine QV QlF ?_ | refine QV QeT ?_ | refine QV QeF ?_ | refine QV QnT ?_ | refine QV QnF ?_ | refine QV QaA ?_ | refine QV QaS ?_))
            exact E_round (vk.length + 1, vK) (by show vk.length + 1 ≤ 256; omega) (by show 256 - (vk.length + 1) < 256 - vk.length; omega) (by repeat' (first | exact True.intro | refine And.intro rfl ?_)) (hRound _ rfl)
          · obtain ⟨m, rfl⟩ : ∃ m : Nat, x = m := ⟨x.toNat, by omega⟩
            have hm : m < R.length := by omega
            rw [val_nat] at c3
            repeat (first
              | refine QV QP ?_ | refine QZ ?_ | refine qcT rfl ?_ | refine qcF rfl ?_ | refine E_blockX ?_ | refine E_blockO rfl ?_
              | refine qs rfl rfl rfl rfl rfl rfl ?_
              | ((try refine qg rfl rfl rfl ?_); first | refine QV QP ?_ | refine QV (rr_arridx Und.eq TyC.ty rfl rfl c2 hcell) ?_ | refine QV (rr_idx1 (j := m) Und.eq TyC.ty rfl rfl hm) ?_ | refine QV (rr_load1 TyC.ty rfl (at_rowA (i := 2) rfl hm)) ?_ | refine QV (rr_eql (b := true) rfl rfl (decide_eq_true (by omega))) ?_ | refine QV QL ?_ | refine QV QA ?_ | refine QV QlT ?_ | refine QV QlF ?_ | refine QV QeT ?_ | refine QV QeF ?_ | refine QV QnT ?_ | refine QV QnF ?_ | refine QV QaA ?_ | refine QV QaS ?_))
            exact E_round (vk.length + 1, vK) (by show vk.length + 1 ≤ 256; omega) (by show 256 - (vk.length + 1) < 256 - vk.length; omega) (by repeat' (first | exact True.intro | refine And.intro rfl ?_)) (hRound _ rfl)
        · have c4 : ¬ x < 0 := fun e => c3 (by unfold val; rw [if_pos e])
          obtain ⟨m, rfl⟩ : ∃ m : Nat, x = m := ⟨x.toNat, by omega⟩
          have hm : m < R.length := by omega
          rw [val_nat] at c3
          have hbm := hble m hm
          rw [en] at hbm
          have e : stepQ BLK Qk (m : Int) = (addQ BLK Qk (m : Int), (idx ((addQ BLK Qk (m : Int)).map BLK) (BLK m) : Int)) := by unfold stepQ; rw [val_nat, if_neg c3, Int.toNat_natCast]
          rw [e] at hnext hokn
          dsimp only at hokn hnext
          rw [en] at hokn
          unfold addQ at hnext hokn
          rw [Int.toNat_natCast] at hnext hokn
          by_cases c5 : BLK m ∈ Qk.map BLK
          · rw [if_pos c5] at hnext hokn
            have hid := idx_lt c5
            rw [List.length_map] at hid
            have hnum : numF BLK Qk (BLK m) = (idx (Qk.map BLK) (BLK m) : Int) + 1 := by unfold numF; rw [if_pos c5]
            generalize idx (Qk.map BLK) (BLK m) = z at *
            repeat (first
              | refine QV QP ?_ | refine QZ ?_ | refine qcT rfl ?_ | refine qcF rfl ?_ | refine E_blockX ?_ | refine E_blockO rfl ?_
              | refine qs rfl rfl rfl rfl rfl rfl ?_
              | ((try refine qg rfl rfl rfl ?_); first | refine QV QP ?_ | refine QV (rr_arridx Und.eq TyC.ty rfl rfl c2 hcell) ?_ | refine QV (rr_idx1 (j := m) Und.eq TyC.ty rfl rfl hm) ?_ | refine QV (rr_load1 TyC.ty rfl (at_rowA (i := 2) rfl hm)) ?_ | refine QV (rr_eql (b := false) rfl rfl (decide_eq_false (by omega))) ?_ | refine QV (rr_idx1 (j := BLK m) Und.eq TyC.ty rfl rfl (by omega)) ?_ | refine QV (rr_load1 TyC.ty rfl (at_rowA (i := 3) rfl (show BLK m < R.length + 1 by omega))) ?_ | refine QV (rr_sub64 (r := (z : Int)) rfl rfl (by omega) (by omega) (by omega)) ?_ | refine QV (rr_conv Und.eq Und.eq rfl (wrap16 (by omega) (by omega))) ?_ | refine QV (rr_aidx1 Und.eq TyC.ty rfl rfl c2) ?_ | refine QV QL ?_ | refine QV QA ?_ | refine QV QlT ?_ | refine QV QlF ?_ | refine QV QeT ?_ | refine QV QeF ?_ | refine QV QnT ?_ | refine QV QnF ?_ | refine QV QaA ?_ | refine QV QaS ?_))
            refine TL_storeV (i := 7) rfl rfl rfl c2 ?_
            rw [mRow_set vk z c2]
            conv => arg 8; simp only [zA, zB, zC, zD, zE, zF, zG, zH, zI, rowS, ret, id_eq]
            repeat (first
              | refine QV QP ?_ | refine QZ ?_ | refine qcT rfl ?_ | refine qcF rfl ?_ | refine E_blockX ?_ | refine E_blockO rfl ?_
              | refine qs rfl rfl rfl rfl rfl rfl ?_
              | ((try refine qg rfl rfl rfl ?_); first | refine QV QP ?_ | refine QV QL ?_ | refine QV QA ?_ | refine QV QlT ?_ | refine QV QlF ?_ | refine QV QeT ?_ | refine QV QeF ?_ | refine QV QnT ?_ | refine QV QnF ?_ | refine QV QaA ?_ | refine QV QaS ?_))
            exact E_round (vk.length + 1, vK) (by show vk.length + 1 ≤ 256; omega) (by show 256 - (vk.length + 1) < 256 - vk.length; omega) (by repeat' (first | exact True.intro | refine And.intro rfl ?_)) (by dsimp only; rw [hnext])
          · rw [if_neg c5] at hnext hokn
            have hnum : numF BLK Qk (BLK m) = 0 := by unfold numF; rw [if_neg c5]
            have hadd := numF_add (q := m) c5
            have hnum2 : numF BLK (Qk ++ [m]) (BLK m) = (Qk.length : Int) + 1 := by rw [hadd, if_pos rfl]
            have hidx : idx ((Qk ++ [m]).map BLK) (BLK m) = Qk.length := by
              have h1 := hnum2
              unfold numF at h1
              rw [if_pos (by simp)] at h1
              omega
            rw [hidx] at hnext
            rw [List.length_append, List.length_singleton] at hokn
            repeat (first
              | refine QV QP ?_ | refine QZ ?_ | refine qcT rfl ?_ | refine qcF rfl ?_ | refine E_blockX ?_ | refine E_blockO rfl ?_
              | refine qs rfl rfl rfl rfl rfl rfl ?_
              | ((try refine qg rfl rfl rfl ?_); first | refine QV QP ?_ | refine QV (rr_arridx Und.eq TyC.ty rfl rfl c2 hcell) ?_ | refine QV (rr_idx1 (j := m) Und.eq TyC.ty rfl rfl hm) ?_ | refine QV (rr_load1 TyC.ty rfl (at_rowA (i := 2) rfl hm)) ?_ | refine QV (rr_eql (b := false) rfl rfl (decide_eq_false (show ¬ (BLK m : Int) = 0 by omega))) ?_ | refine QV (rr_idx1 (j := BLK m) Und.eq TyC.ty rfl rfl (by omega)) ?_ | refine QV (rr_load1 TyC.ty rfl (at_rowA (i := 3) rfl (show BLK m < R.length + 1 by omega))) ?_ | refine QV (rr_eql (b := true) rfl rfl (decide_eq_true hnum)) ?_ | refine QV (rr_conv Und.eq Und.eq rfl (wrap_in (by omega) (by omega))) ?_ | refine QV QL ?_ | refine QV QA ?_ | refine QV QlT ?_ | refine QV QlF ?_ | refine QV QeT ?_ | refine QV QeF ?_ | refine QV QnT ?_ | refine QV QnF ?_ | refine QV QaA ?_ | refine QV QaS ?_))
            refine TL_push1 (i := 8) rfl rfl rfl rfl rfl rfl (fun z h => by cases h; rfl) (by omega) (by omega) rfl fun z v2 => ?_
            conv => arg 8; simp only [zA, zB, zC, zD, zE, zF, zG, zH, zI, rowS, ret, id_eq]
            repeat (first
              | refine QV QP ?_ | refine QZ ?_ | refine qcT rfl ?_ | refine qcF rfl ?_ | refine E_blockX ?_ | refine E_blockO rfl ?_
              | refine qs rfl rfl rfl rfl rfl rfl ?_
              | ((try refine qg rfl rfl rfl ?_); first | refine QV QP ?_ | refine QV (rr_idx1 (j := m) Und.eq TyC.ty rfl rfl hm) ?_ | refine QV (rr_load1 TyC.ty rfl (at_rowA (i := 2) rfl hm)) ?_ | refine QV (rr_idx1 (j := BLK m) Und.eq TyC.ty rfl rfl (by omega)) ?_ | refine QV (rr_rowlen (i := 8) Und.eq rfl rfl) ?_ | refine QV QL ?_ | refine QV QA ?_ | refine QV QlT ?_ | refine QV QlF ?_ | refine QV QeT ?_ | refine QV QeF ?_ | refine QV QnT ?_ | refine QV QnF ?_ | refine QV QaA ?_ | refine QV QaS ?_))
            refine TL_storeA (i := 3) (off := BLK m) (v := ((Qk.length + 1 : Nat) : Int)) (numF BLK (Qk ++ [m])) TyC.ty rfl rfl rfl rfl rfl (by omega) (fun j hj => by rw [hadd]; rfl) ?_
            conv => arg 8; simp only [zA, zB, zC, zD, zE, zF, zG, zH, zI, rowS, ret, id_eq]
            repeat (first
              | refine QV QP ?_ | refine QZ ?_ | refine qcT rfl ?_ | refine qcF rfl ?_ | refine E_blockX ?_ | refine E_blockO rfl ?_
              | refine qs rfl rfl rfl rfl rfl rfl ?_
              | ((try refine qg rfl rfl rfl ?_); first | refine QV QP ?_ | refine QV (rr_idx1 (j := m) Und.eq TyC.ty rfl rfl hm) ?_ | refine QV (rr_load1 TyC.ty rfl (at_rowA (i := 2) rfl hm)) ?_ | refine QV (rr_idx1 (j := BLK m) Und.eq TyC.ty rfl rfl (by omega)) ?_ | refine QV (rr_load1 TyC.ty rfl (at_rowA (i := 3) rfl (show BLK m < R.length + 1 by omega))) ?_ | refine QV (rr_sub64 (r := (Qk.length : Int)) rfl rfl (by omega) (by omega) (by omega)) ?_ | refine QV (rr_conv Und.eq Und.eq rfl (wrap16 (by omega) (by omega))) ?_ | refine QV (rr_aidx1 Und.eq TyC.ty rfl rfl c2) ?_ | refine QV QL ?_ | refine QV QA ?_ | refine QV QlT ?_ | refine QV QlF ?_ | refine QV QeT ?_ | refine QV QeF ?_ | refine QV QnT ?_ | refine QV QnF ?_ | refine QV QaA ?_ | refine QV QaS ?_))
            refine TL_storeV (i := 7) rfl rfl rfl c2 ?_
            rw [mRow_set vk (Qk.length : Int) c2]
            conv => arg 8; simp only [zA, zB, zC, zD, zE, zF, zG, zH, zI, rowS, ret, id_eq]
            repeat (first
              | refine QV QP ?_ | refine QZ ?_ | refine qcT rfl ?_ | refine qcF rfl ?_ | refine E_blockX ?_ | refine E_blockO rfl ?_
              | refine qs rfl rfl rfl rfl rfl rfl ?_
              | ((try refine qg rfl rfl rfl ?_); first | refine QV QP ?_ | refine QV QL ?_ | refine QV QA ?_ | refine QV QlT ?_ | refine QV QlF ?_ | refine QV QeT ?_ | refine QV QeF ?_ | refine QV QnT ?_ | refine QV QnF ?_ | refine QV QaA ?_ | refine QV QaS ?_))
            exact E_round (vk.length + 1, v2) (by show vk.length + 1 ≤ 256; omega) (by show 256 - (vk.length + 1) < 256 - vk.length; omega) (by repeat' (first | exact True.intro | refine And.intro rfl ?_)) (by dsimp only; rw [hnext]; simp)
      · obtain rfl : k = 256 := by omega
        have hok := (hrw 256 (Nat.le_refl _)).len
        obtain ⟨E, hE⟩ := hpre 256
        have hv := hrl 256
        clear hrw hpre hrl hst hd hatR
        generalize rowQ (aut R tags) BLK q Q 256 = RQ at *
        obtain ⟨Qe, ve⟩ := RQ
        dsimp only at hok hE hv hw' ⊢
        subst hE
        rw [mRow_all hv]
        rw [en] at hok
        have hqe : ((Q ++ E).map fun q : Nat => intV q)[0 + n]? = some (intV q) := by
          rw [Nat.zero_add, List.getElem?_map, List.getElem?_append_left c1, List.getElem?_eq_getElem c1, ← hQn]; rfl
        have htk : (((Q ++ E).take (n + 1)).map (aut R tags).tag).flatMap kit.intC = ((Q.take n).map (aut R tags).tag).flatMap kit.intC ++ [intV tags[q]] := by
          rw [List.take_append_of_le_length (by omega), List.take_succ_eq_append_getElem c1, ← hQn, List.map_append, List.flatMap_append, List.map_singleton, List.flatMap_singleton, htg]; rfl
        rw [List.length_append] at hok
        have hlenE : n < (Q ++ E).length := by rw [List.length_append]; omega
        repeat (first
          | refine QV QP ?_ | refine QZ ?_ | refine qcT rfl ?_ | refine qcF rfl ?_ | refine E_blockX ?_ | refine E_blockO rfl ?_
          | refine qs rfl rfl rfl rfl rfl rfl ?_
          | ((try refine qg rfl rfl rfl ?_); first | refine QV QP ?_ | refine QV (rr_load1 TyC.ty rfl (at_blk (i := 4) rfl rfl)) ?_ | refine QV (rr_loadB (i := 7) TyC.ty rfl rfl (by rw [List.size_toArray, rowC_len])) ?_ | refine QV QL ?_ | refine QV QA ?_ | refine QV QlT ?_ | refine QV QlF ?_ | refine QV QeT ?_ | refine QV QeF ?_ | refine QV QnT ?_ | refine QV QnF ?_ | refine QV QaA ?_ | refine QV QaS ?_))
        refine TL_pushN (i := 5) rfl rfl (by rw [List.size_toArray, rowC_len]) rfl (by simpa using row_one1 (vec ve)) rfl rfl (fun z h => by cases h; rfl) (by omega) (by omega) rfl fun z v2 => ?_
        conv => arg 8; simp only [zA, zB, zC, zD, zE, zF, zG, zH, zI, rowS, ret, id_eq]
        repeat (first
          | refine QV QP ?_ | refine QZ ?_ | refine qcT rfl ?_ | refine qcF rfl ?_ | refine E_blockX ?_ | refine E_blockO rfl ?_
          | refine qs rfl rfl rfl rfl rfl rfl ?_
          | ((try refine qg rfl rfl rfl ?_); first | refine QV QP ?_ | refine QV QL ?_ | refine QV QA ?_ | refine QV QlT ?_ | refine QV QlF ?_ | refine QV QeT ?_ | refine QV QeF ?_ | refine QV QnT ?_ | refine QV QnF ?_ | refine QV QaA ?_ | refine QV QaS ?_))
        refine TL_slv (i := 5) rfl fun hc1 ho1 => ?_
        refine TL_store1 (i := 4) rfl rfl rfl hc1 ho1 rfl ?_
        conv => arg 8; simp only [zA, zB, zC, zD, zE, zF, zG, zH, zI, rowS, ret, id_eq]
        repeat (first
          | refine QV QP ?_ | refine QZ ?_ | refine qcT rfl ?_ | refine qcF rfl ?_ | refine E_blockX ?_ | refine E_blockO rfl ?_
          | refine qs rfl rfl rfl rfl rfl rfl ?_
          | ((try refine qg rfl rfl rfl ?_); first | refine QV QP ?_ | refine QV QL ?_ | refine QV QA ?_ | refine QV QlT ?_ | refine QV QlF ?_ | refine QV QeT ?_ | refine QV QeF ?_ | refine QV QnT ?_ | refine QV QnF ?_ | refine QV QaA ?_ | refine QV QaS ?_))
        refine T_rowN (i := 8) rfl (by omega) fun gQ' cQ' hv' hcQ' hcQ2' => ?_
        subst hv'
        (repeat refine T_seq ?_)
        refine T_ord ([blkO g1 (dfaV (.slice (some ⟨b, off, none⟩) R.length cr) (.slice (some ⟨bb, ofT, none⟩) tags.length ct)).cells 26, rowO 3 1 (.slice (some ⟨gQ', 0, none⟩) (Q ++ E).length cQ') (Q ++ E).length ((Q ++ E).map fun q : Nat => intV q)]) (.calm 0 (.calm 2 (.calm 3 (.calm 4 (.calm 5 (.calm 6 (.calm 7 (.calm 8 (.calm 9 (.two 1 (.one 10 (.one 11 (.calm 12 (.one 13 (.done))))) 10 (.one 1 (.one 11 (.calm 12 (.one 13 (.done))))))))))))))) (sub_pick [0, 8] (by decide) rfl) (by kernel_rfl) (by kernel_rfl) (by intro c a d v w h; cases d <;> exact h) ?_
        repeat (first
          | ((first | refine TW_plain rfl rfl ?_ | refine TW_gmet rfl rfl rfl rfl ?_); first | refine QW QP ?_ | refine QW (rr_load1 TyC.ty rfl (at_blk (i := 0) rfl rfl)) ?_ | refine QW (rr_idx1 (j := n) Und.eq TyC.ty rfl rfl hlenE) ?_ | refine QW (rr_load1 TyC.ty rfl (at_row (i := 1) rfl hqe)) ?_ | refine QW (rr_idxc (j := q) Und.eq TyC.ty rfl rfl hqtags) ?_ | refine QW (rr_load1 TyC.ty rfl (hatT _)) ?_ | refine QW QL ?_ | refine QW QA ?_ | refine QW QlT ?_ | refine QW QlF ?_ | refine QW QeT ?_ | refine QW QeF ?_ | refine QW QnT ?_ | refine QW QnF ?_ | refine QW QaA ?_ | refine QW QaS ?_)
          | refine TW_skip rfl rfl rfl rfl rfl rfl rfl ?_ | refine TW_done ?_)
        refine TW_two rfl rfl ?_ ?_
        · refine TL_val (rr_load1 TyC.ty rfl (at_blk (i := 4) rfl rfl)) rfl rfl rfl (TW_on (sub_pick [0, 8] (by decide) rfl) ?_)
          refine TW_one rfl (TL_one rfl rfl rfl rfl rfl fun g109 => TW_on (sub_pick [0, 8] (by decide) rfl) ?_)
          refine TW_one rfl (TL_app11 (i := 6) (q := 9) rfl rfl rfl rfl rfl rfl (by omega) (by omega) rfl fun v3 => TW_on (sub_pick [0, 8] (by decide) rfl) ?_)
          repeat (first
            | ((first | refine TW_plain rfl rfl ?_ | refine TW_gmet rfl rfl rfl rfl ?_); first | refine QW QP ?_ | refine QW QL ?_ | refine QW QA ?_ | refine QW QlT ?_ | refine QW QlF ?_ | refine QW QeT ?_ | refine QW QeF ?_ | refine QW QnT ?_ | refine QW QnF ?_ | refine QW QaA ?_ | refine QW QaS ?_)
            | refine TW_skip rfl rfl rfl rfl rfl rfl rfl ?_ | refine TW_done ?_)
          refine TW_one rfl (TL_slv (i := 6) rfl fun hc2 ho2 => TL_store1 (i := 4) rfl rfl rfl hc2 ho2 rfl (TW_on (sub_pick [0, 8] (by decide) rfl) ?_))
          repeat (first
            | ((first | refine TW_plain rfl rfl ?_ | refine TW_gmet rfl rfl rfl rfl ?_); first | refine QW QP ?_ | refine QW QL ?_ | refine QW QA ?_ | refine QW QlT ?_ | refine QW QlF ?_ | refine QW QeT ?_ | refine QW QeF ?_ | refine QW QnT ?_ | refine QW QnF ?_ | refine QW QaA ?_ | refine QW QaS ?_)
            | refine TW_skip rfl rfl rfl rfl rfl rfl rfl ?_ | refine TW_done ?_)
          repeat (first
            | refine QV QP ?_ | refine QZ ?_ | refine qcT rfl ?_ | refine qcF rfl ?_ | refine E_blockX ?_ | refine E_blockO rfl ?_
            | refine qs rfl rfl rfl rfl rfl rfl ?_
            | ((try refine qg rfl rfl rfl ?_); first | refine QV QP ?_ | refine QV QL ?_ | refine QV QA ?_ | refine QV QlT ?_ | refine QV QlF ?_ | refine QV QeT ?_ | refine QV QeF ?_ | refine QV QnT ?_ | refine QV QnF ?_ | refine QV QaA ?_ | refine QV QaS ?_))
          refine E_pick [0, 1, 2, 3, 4, 8, 5, 6] (by decide) rfl ?_
          exact E_round (f', n + 1, Q ++ E, out ++ [vec ve], .slice (some ⟨gQ', 0, none⟩) (Q ++ E).length cQ', v2, v3) hw' (Nat.lt_succ_self f') (by repeat' (first | exact True.intro | refine And.intro rfl ?_)) (by dsimp only; rw [htk]; simp; rfl)
        · refine TL_one rfl rfl rfl rfl rfl fun g109 => TW_on (sub_pick [0, 8] (by decide) rfl) ?_
          refine TW_one rfl (TL_val (rr_load1 TyC.ty rfl (at_blk (i := 4) rfl rfl)) rfl rfl rfl (TW_on (sub_pick [0, 8] (by decide) rfl) ?_))
          refine TW_one rfl (TL_app11 (i := 6) (q := 9) rfl rfl rfl rfl rfl rfl (by omega) (by omega) rfl fun v3 => TW_on (sub_pick [0, 8] (by decide) rfl) ?_)
          repeat (first
            | ((first | refine TW_plain rfl rfl ?_ | refine TW_gmet rfl rfl rfl rfl ?_); first | refine QW QP ?_ | refine QW QL ?_ | refine QW QA ?_ | refine QW QlT ?_ | refine QW QlF ?_ | refine QW QeT ?_ | refine QW QeF ?_ | refine QW QnT ?_ | refine QW QnF ?_ | refine QW QaA ?_ | refine QW QaS ?_)
            | refine TW_skip rfl rfl rfl rfl rfl rfl rfl ?_ | refine TW_done ?_)
          refine TW_one rfl (TL_slv (i := 6) rfl fun hc2 ho2 => TL_store1 (i := 4) rfl rfl rfl hc2 ho2 rfl (TW_on (sub_pick [0, 8] (by decide) rfl) ?_))
          repeat (first
            | ((first | refine TW_plain rfl rfl ?_ | refine TW_gmet rfl rfl rfl rfl ?_); first | refine QW QP ?_ | refine QW QL ?_ | refine QW QA ?_ | refine QW QlT ?_ | refine QW QlF ?_ | refine QW QeT ?_ | refine QW QeF ?_ | refine QW QnT ?_ | refine QW QnF ?_ | refine QW QaA ?_ | refine QW QaS ?_)
            | refine TW_skip rfl rfl rfl rfl rfl rfl rfl ?_ | refine TW_done ?_)
          repeat (first
            | refine QV QP ?_ | refine QZ ?_ | refine qcT rfl ?_ | refine qcF rfl ?_ | refine E_blockX ?_ | refine E_blockO rfl ?_
            | refine qs rfl rfl rfl rfl rfl rfl ?_
            | ((try refine qg rfl rfl rfl ?_); first | refine QV QP ?_ | refine QV QL ?_ | refine QV QA ?_ | refine QV QlT ?_ | refine QV QlF ?_ | refine QV QeT ?_ | refine QV QeF ?_ | refine QV QnT ?_ | refine QV QnF ?_ | refine QV QaA ?_ | refine QV QaS ?_))
          refine E_pick [0, 1, 2, 3, 4, 8, 5, 6] (by decide) rfl ?_
          exact E_round (f', n + 1, Q ++ E, out ++ [vec ve], .slice (some ⟨gQ', 0, none⟩) (Q ++ E).length cQ', v2, v3) hw' (Nat.lt_succ_self f') (by repeat' (first | exact True.intro | refine And.intro rfl ?_)) (by dsimp only; rw [htk]; simp; rfl)
    · obtain ⟨e, rfl⟩ := hfin _ _ _ _ hw c1
      rw [e]
      repeat (first
        | refine QV QP ?_ | refine QZ ?_ | refine qcT rfl ?_ | refine qcF rfl ?_ | refine E_blockX ?_ | refine E_blockO rfl ?_
        | refine qs rfl rfl rfl rfl rfl rfl ?_
        | ((try refine qg rfl rfl rfl ?_); first | refine QV QP ?_ | refine QV (rr_rowlen (i := 5) Und.eq rfl rfl) ?_ | refine QV (rr_loadB (i := 4) TyC.ty rfl rfl rfl) ?_ | refine QV QL ?_ | refine QV QA ?_ | refine QV QlT ?_ | refine QV QlF ?_ | refine QV QeT ?_ | refine QV QeF ?_ | refine QV QnT ?_ | refine QV QnF ?_ | refine QV QaA ?_ | refine QV QaS ?_))
      refine TL_slv (i := 6) rfl fun hc1 ho1 => ?_
      refine TL_slv (i := 7) rfl fun hc2 ho2 => ?_
      refine TL_storeB (i := 1) (cs' := (dfaV vR vT).cells) rfl rfl rfl rfl (by show ([vR, vT].all Value.oneCell') = true; simp [ho1, ho2]) rfl ?_
      conv => arg 8; simp only [zA, zB, zC, zD, zE, zF, zG, zH, zI, rowS, ret, id_eq]
      repeat (first
        | refine QV QP ?_ | refine QZ ?_ | refine qcT rfl ?_ | refine qcF rfl ?_ | refine E_blockX ?_ | refine E_blockO rfl ?_
        | refine qs rfl rfl rfl rfl rfl rfl ?_
        | ((try refine qg rfl rfl rfl ?_); first | refine QV QP ?_ | refine QV QL ?_ | refine QV QA ?_ | refine QV QlT ?_ | refine QV QlF ?_ | refine QV QeT ?_ | refine QV QeF ?_ | refine QV QnT ?_ | refine QV QnF ?_ | refine QV QaA ?_ | refine QV QaS ?_))
      refine E_retc2 (i := 1) rfl rfl rfl rfl rfl fun w hm => ?_
      exact hm.meets (S := ⟨fun (_ : Value × Value) => True, fun x => .tuple #[dfaV x.1 x.2, .int .i64 0], fun x => [rowO 73 256 x.1 out.length (out.flatMap rowC), rowO 3 1 x.2 (Q.map (aut R tags).tag).length ((Q.map (aut R tags).tag).flatMap kit.intC)]⟩) (vR, vT) trivial [6, 7] (by decide) (by simp)
  · have er : minR R tags = [] := if_neg hc
    have et : minT R tags = [] := if_neg hc
    unfold minS
    rw [er, et]
    generalize chk R tags = e at *
    refine enter (args := [dfaV (.slice br R.length cr) (.slice bt tags.length ct)]) (n := 113) Tryd.func11 rfl rfl rfl ?_
    refine T_seq (T_region (TL_box rfl rfl rfl fun g1 => ?_))
    refine TL_new rfl fun g2 => ?_
    conv => arg 8; simp only [zA, zB, zC, zD, zE, zF, zG, zH, zI, rowS, ret, id_eq]
    repeat (first
      | refine QV QP ?_ | refine QZ ?_ | refine qcT rfl ?_ | refine qcF rfl ?_ | refine E_blockX ?_ | refine E_blockO rfl ?_
      | refine qs rfl rfl rfl rfl rfl rfl ?_
      | ((try refine qg rfl rfl rfl ?_); first | refine QV QP ?_ | refine QV (rr_loadB (i := 0) TyC.ty rfl rfl rfl) ?_ | refine QV QL ?_ | refine QV QA ?_ | refine QV QlT ?_ | refine QV QlF ?_ | refine QV QeT ?_ | refine QV QeF ?_ | refine QV QnT ?_ | refine QV QnF ?_ | refine QV QaA ?_ | refine QV QaS ?_))
    refine TL_call (he1 EntersC.en rfl rfl) (fun w hm => hck _ hm.below) rfl rfl rfl ?_
    intro _ _
    repeat (first
      | refine QV QP ?_ | refine QZ ?_ | refine qcT rfl ?_ | refine qcF rfl ?_ | refine E_blockX ?_ | refine E_blockO rfl ?_
      | refine qs rfl rfl rfl rfl rfl rfl ?_
      | ((try refine qg rfl rfl rfl ?_); first | refine QV QP ?_ | refine QV (rr_build rfl build_dfa0) ?_ | refine QV (rr_neq (b := true) rfl rfl (decide_eq_true hc)) ?_ | refine QV QL ?_ | refine QV QA ?_ | refine QV QlT ?_ | refine QV QlF ?_ | refine QV QeT ?_ | refine QV QeF ?_ | refine QV QnT ?_ | refine QV QnF ?_ | refine QV QaA ?_ | refine QV QaS ?_))
    refine TL_storeB (i := 1) rfl rfl rfl rfl rfl rfl ?_
    conv => arg 8; simp only [zA, zB, zC, zD, zE, zF, zG, zH, zI, rowS, ret, id_eq]
    repeat (first
      | refine QV QP ?_ | refine QZ ?_ | refine qcT rfl ?_ | refine qcF rfl ?_ | refine E_blockX ?_ | refine E_blockO rfl ?_
      | refine qs rfl rfl rfl rfl rfl rfl ?_
      | ((try refine qg rfl rfl rfl ?_); first | refine QV QP ?_ | refine QV QL ?_ | refine QV QA ?_ | refine QV QlT ?_ | refine QV QlF ?_ | refine QV QeT ?_ | refine QV QeF ?_ | refine QV QnT ?_ | refine QV QnF ?_ | refine QV QaA ?_ | refine QV QaS ?_))
    refine E_nilrow 73 256 (E_nilrow 3 1 ?_)
    refine E_retc2 (i := 1) rfl rfl rfl rfl rfl fun w hm => ?_
    exact hm.meets (S := ⟨fun (_ : Value × Value) => True, fun x => .tuple #[dfaV x.1 x.2, .int .i64 e], fun x => [rowO 73 256 x.1 0 [], rowO 3 1 x.2 0 []]⟩) (.slice none 0 0, .slice none 0 0) trivial [2, 3] (by decide) rfl
end Go.Proofs.YtkcnoompimohnaaDoor.eng

/- SmY -/
namespace Go.Proofs.YtkcnoompimohnaaDoor.eng
open Go.RowKit kit mix dfaL smallL
theorem chk_rng {R : List Row} {tags : List Int} (h : chk R tags = 0) : (∀ r ∈ R, ∀ x ∈ r.toList, -32768 ≤ x ∧ x ≤ 32767) ∧ ∀ x ∈ tags, kit.okI64 x := by
  obtain ⟨hA, hl⟩ := chk_ok h
  have hle : R.length ≤ 200 := hA.le
  refine ⟨fun r hr x hx => ?_, fun x hx => ?_⟩
  · obtain ⟨i, hi, rfl⟩ := List.mem_iff_getElem.1 hr
    obtain ⟨b, hb, rfl⟩ := List.mem_iff_getElem.1 hx
    have hb' : b < 256 := by simpa using hb
    have := hA.step i hi b hb'
    rw [aut_d hi hb'] at this
    have e : (aut R tags).n = R.length := rfl
    rw [Vector.getElem_toList]
    omega
  · obtain ⟨i, hi, rfl⟩ := List.mem_iff_getElem.1 hx
    have := hA.tags i (by show i < R.length; omega)
    rw [aut_tag hi] at this
    exact ⟨by omega, by omega⟩
theorem Mem.dfaM {B : Base} {w : World} {L : List Own} {i j : Nat} {vr vt : Value} {R : List Row} {tags : List Int} (hm : Mem B L w) (hi : L[i]? = some (rowO 73 256 vr R.length (R.flatMap rowC))) (hj : L[j]? = some (rowO 3 1 vt tags.length (tags.flatMap kit.intC))) (hc : chk R tags = 0) : DfaM w vr vt R tags :=
  ⟨sl_row hi _ hm, sl_row hj _ hm, (chk_rng hc).1, (chk_rng hc).2⟩
theorem tagF_ok {R : List Row} {tags : List Int} {s : List UInt8} (h : chk R tags = 0) : tagF R tags s = (tg (aut R tags) (go (aut R tags) 0 s), 0) := if_pos h
theorem tagF_min {R : List Row} {tags : List Int} {s : List UInt8} (h : chk R tags = 0) : tagF (minR R tags) (minT R tags) s = (tg (aut R tags) (go (aut R tags) 0 s), 0) := by
  rw [tagF_ok (min_chk h), min_aut h, min_means (chk_ok h).1]
end Go.Proofs.YtkcnoompimohnaaDoor.eng

/- SmPL -/
namespace Go.Proofs.YtkcnoompimohnaaDoor.eng
open Go.RowKit kit mix dfaL smallL
def cellF (R : List Row) (i b : Nat) : Int := (R.getD i row0).toList.getD b 0
theorem cell_get {R : List Row} {i b : Nat} (h : i < R.length) (hb : b < 256) : cellF R i b = (R[i])[b] := aut_d (tags := []) h hb
/-- a column, its first k cells being there -/
def colS (R : List Row) (b k : Nat) : Col := Vector.ofFn fun i : Fin 200 => if i < k then cellF R i b else 0
def colF (R : List Row) (b : Nat) : Col := colS R b R.length
theorem colS_0 (R : List Row) (b : Nat) : colS R b 0 = Vector.replicate 200 0 := by
  refine Vector.ext fun i hi => ?_
  unfold colS; simp
theorem colS_set (R : List Row) (b k : Nat) (h : k < 200) : (colS R b k).set k (cellF R k b) = colS R b (k + 1) := by
  refine Vector.ext fun i hi => ?_
  unfold colS
  rw [Vector.getElem_set, Vector.getElem_ofFn, Vector.getElem_ofFn]
  split
  · rename_i e; subst e; simp
  · have : i < k ↔ i < k + 1 := by omega
    simp only [this]
theorem col_set (c : Col) {i : Nat} (h : i < 200) (x : Int) : (colC c).toArray.setIfInBounds i (.int .i16 x) = (colC (c.set i x)).toArray := by
  unfold colC
  rw [Vector.toList_set, List.map_set]; simp
theorem zero_col : (List.replicate 200 (Value.int .i16 0)).toArray = (colC (Vector.replicate 200 0)).toArray := by
  unfold colC
  rw [Vector.toList_replicate, List.map_replicate]
theorem colF_get (R : List Row) (b i : Nat) (h : i < R.length) (h2 : R.length ≤ 200) : (colF R b).toList.getD i 0 = cellF R i b := by
  unfold colF colS
  rw [List.getD_eq_getElem?_getD, List.getElem?_eq_getElem (by simp; omega), Option.getD_some, Vector.getElem_toList, Vector.getElem_ofFn]
  simp [h]
theorem colF_ok {R : List Row} (hr : ∀ r ∈ R, ∀ x ∈ r.toList, -32768 ≤ x ∧ x ≤ 32767) {b : Nat} (hb : b < 256) : colOk (colF R b) := by
  intro i hi
  unfold colF colS
  rw [Vector.getElem_ofFn]
  dsimp only
  split
  · rename_i h
    rw [cell_get h hb]
    exact hr R[i] (List.getElem_mem h) _ (by rw [← Vector.getElem_toList (h := by simpa using hb)]; exact List.getElem_mem _)
  · omega
/-- the columns, as they come -/
def pkD (R : List Row) (k : Nat) : List Col := firsts [] ((List.range k).map (colF R))
theorem pkD_next (R : List Row) (k : Nat) : pkD R (k + 1) = more (pkD R k) (colF R k) := by
  unfold pkD
  rw [List.range_succ, List.map_append, List.map_singleton, firsts_snoc]
theorem pkD_old {R : List Row} {k : Nat} (h : colF R k ∈ pkD R k) : pkD R (k + 1) = pkD R k := by
  rw [pkD_next]; exact if_pos h
theorem pkD_new {R : List Row} {k : Nat} (h : colF R k ∉ pkD R k) : pkD R (k + 1) = pkD R k ++ [colF R k] := by
  rw [pkD_next]; exact if_neg h
theorem pkD_len (R : List Row) : ∀ k, (pkD R k).length ≤ k
  | 0 => Nat.le_refl _
  | k + 1 => by
    have := pkD_len R k
    by_cases c : colF R k ∈ pkD R k
    · rw [pkD_old c]; omega
    · rw [pkD_new c, List.length_append, List.length_singleton]; omega
theorem pkD_pre (R : List Row) (k : Nat) : ∀ j, k ≤ j → ∃ E, pkD R j = pkD R k ++ E
  | 0, h => ⟨[], by obtain rfl : k = 0 := (by omega); rw [List.append_nil]⟩
  | j + 1, h => by
    by_cases c : k = j + 1
    · subst c; exact ⟨[], by rw [List.append_nil]⟩
    · obtain ⟨E, hE⟩ := pkD_pre R k j (by omega)
      obtain ⟨E', hE'⟩ := more_pre (pkD R j) (colF R j)
      exact ⟨E ++ E', by rw [pkD_next, hE', hE, List.append_assoc]⟩
theorem pkD_mem (R : List Row) {b k : Nat} (h : b < k) : colF R b ∈ pkD R k := mem_firsts.2 (.inr (List.mem_map.2 ⟨b, by simpa using h, rfl⟩))
/-- the number of a byte's column -/
def pkN (R : List Row) (b : Nat) : Nat := idx (pkD R 256) (colF R b)
theorem pkN_at {R : List Row} {k : Nat} (h : k < 256) : pkN R k = if colF R k ∈ pkD R k then idx (pkD R k) (colF R k) else (pkD R k).length := by
  obtain ⟨E, hE⟩ := pkD_pre R (k + 1) 256 (by omega)
  unfold pkN
  rw [hE, idx_pre (pkD_mem R (Nat.lt_succ_self k)), pkD_next, idx_more]
  by_cases c : colF R k ∈ pkD R k
  · rw [if_pos c, if_pos c]
  · rw [if_neg c, if_neg c]
theorem pkN_lt (R : List Row) {b : Nat} (h : b < 256) : pkN R b < (pkD R 256).length := idx_lt (pkD_mem R h)
theorem pkN_256 (R : List Row) {b : Nat} (h : b < 256) : pkN R b < 256 := Nat.lt_of_lt_of_le (pkN_lt R h) (pkD_len R 256)
abbrev Of := Vector Nat 256
def ofS (R : List Row) (k : Nat) : Of := Vector.ofFn fun b : Fin 256 => if b < k then pkN R b else 0
theorem ofS_0 (R : List Row) : ofS R 0 = Vector.replicate 256 0 := by
  refine Vector.ext fun i hi => ?_
  unfold ofS; simp
theorem ofS_set (R : List Row) (k : Nat) (h : k < 256) : (ofS R k).set k (pkN R k) = ofS R (k + 1) := by
  refine Vector.ext fun i hi => ?_
  unfold ofS
  rw [Vector.getElem_set, Vector.getElem_ofFn, Vector.getElem_ofFn]
  split
  · rename_i e; subst e; simp
  · have : i < k ↔ i < k + 1 := by omega
    simp only [this]
/-- a row of Next, the columns being D -/
def nxL (D : List Col) (i : Nat) : List Int := D.map fun c => c.toList.getD i 0
/-- what small.Pack makes of rows -/
def pkR (R : List Row) : List (List Int) := (List.range R.length).map (nxL (pkD R 256))
/-! ### cells -/
def pkC (o : Of) (vn vt : Value) : List Value := o.toList.map (fun n : Nat => .int .u8 (n : Int)) ++ [vn, vt]
def pkV (o : Of) (vn vt : Value) : Value := .agg (pkC o vn vt).toArray
theorem pkC_len (o : Of) (vn vt : Value) : (pkC o vn vt).length = 258 := by simp [pkC]
theorem pk_size (o : Of) (vn vt : Value) : (pkC o vn vt).toArray.size = 258 := by rw [List.size_toArray, pkC_len]
theorem pk_of (o : Of) (vn vt : Value) {b : Nat} (h : b < 256) : (pkC o vn vt).toArray[b]? = some (.int .u8 (o[b] : Int)) := by
  rw [List.getElem?_toArray]
  unfold pkC
  rw [List.getElem?_append_left (by simpa using h), List.getElem?_map, List.getElem?_eq_getElem (by simpa using h), Vector.getElem_toList]; rfl
theorem pk_next (o : Of) (vn vt : Value) : (pkC o vn vt).toArray[256]? = some vn := by
  rw [List.getElem?_toArray]
  unfold pkC
  rw [List.getElem?_append_right (by simp)]; simp
theorem pk_tags (o : Of) (vn vt : Value) : (pkC o vn vt).toArray[257]? = some vt := by
  rw [List.getElem?_toArray]
  unfold pkC
  rw [List.getElem?_append_right (by simp)]; simp
theorem pk_one (o : Of) {vn vt : Value} (h1 : vn.oneCell' = true) (h2 : vt.oneCell' = true) : (pkC o vn vt).toArray.toList.all Value.oneCell' = true := by
  refine List.all_eq_true.2 fun u hu => ?_
  unfold pkC at hu
  simp only [List.mem_append, List.mem_map, List.mem_cons, List.not_mem_nil, or_false] at hu
  rcases hu with ⟨n, _, rfl⟩ | rfl | rfl
  · rfl
  · exact h1
  · exact h2
theorem pk_set (o : Of) (vn vt : Value) {b : Nat} (h : b < 256) (x : Nat) : (pkC o vn vt).toArray.setIfInBounds b (.int .u8 (x : Int)) = (pkC (o.set b x) vn vt).toArray := by
  unfold pkC
  rw [Vector.toList_set, List.map_set]
  simp [List.set_append, h]
theorem zero_pk : (List.replicate 256 (Value.int .u8 0) ++ ([.slice none 0 0, .slice none 0 0] : List Value)).toArray = (pkC (Vector.replicate 256 0) (.slice none 0 0) (.slice none 0 0)).toArray := by
  unfold pkC
  rw [Vector.toList_replicate, List.map_replicate]; rfl
theorem build_pk0 (w : World) : (Instr.build 46 #[]).run Tryd.prog w = .ok (pkV (Vector.replicate 256 0) (.slice none 0 0) (.slice none 0 0)) w := by kernel_rfl
theorem build_pk (g h n m cap : Nat) (w : World) : (Instr.build 46 #[(1, .slice (some ⟨g, 0, none⟩) n n), (2, .slice (some ⟨h, 0, none⟩) m cap)]).run Tryd.prog w = .ok (pkV (Vector.replicate 256 0) (.slice (some ⟨g, 0, none⟩) n n) (.slice (some ⟨h, 0, none⟩) m cap)) w := by kernel_rfl
end Go.Proofs.YtkcnoompimohnaaDoor.eng

/- SmIn -/
namespace Go.Proofs.YtkcnoompimohnaaDoor.eng
open Go.RowKit kit mix
set_option maxHeartbeats 2000000 in
theorem cloneSmIn_calls (v : Value) (l : List Int) (w : World) (hs : Sl w v l.length (l.flatMap kit.intC)) (hl : l.length * 8 ≤ 140737488355328) :
    Calls Tryd.prog 25 #[v] w (Meets (rowS 3 1 l.length (l.flatMap kit.intC) id) w) := by
  obtain ⟨base, cap, rfl, hcap, hmax, hrd⟩ := hs
  unfold maxLen at hmax
  refine enter (args := [.slice base l.length cap]) (n := 8) Tryd.func25 rfl rfl rfl ?_
  have hsl : ∀ w', Gr w w' → Sl w' (.slice base l.length cap) l.length (l.flatMap kit.intC) := fun w' hg => Sl.gr ⟨base, cap, rfl, hcap, hmax, hrd⟩ hg
  clear hrd
  cases base with
  | none =>
    repeat (first
      | refine QV QP ?_ | refine QZ ?_ | refine qcT rfl ?_ | refine qcF rfl ?_ | refine QV (rr_slnil Und.eq rfl rfl rfl) ?_)
    have h0 : l = [] := by
      cases l with
      | nil => rfl
      | cons x l => obtain ⟨_, _, h, _, _, h2⟩ := hsl w (Gr.refl w); simp only [Value.slice.injEq] at h; obtain ⟨rfl, _⟩ := h; obtain ⟨b, off, h, _⟩ := h2 (by simp); cases h
    subst h0
    refine E_nilrow 3 1 ?_
    exact E_ret1 rfl rfl fun w hm => hm.meets (S := rowS 3 1 0 [] id) _ trivial [0] (by decide) rfl
  | some p =>
    repeat (first
      | refine QV QP ?_ | refine QZ ?_ | refine qcT rfl ?_ | refine qcF rfl ?_ | refine QV (rr_slnil Und.eq rfl rfl rfl) ?_)
    refine TL_lit0 rfl fun g => ?_
    repeat (first
      | refine QV QP ?_ | refine QZ ?_ | refine qcT rfl ?_ | refine qcF rfl ?_)
    refine TL_appSl (i := 0) rfl (fun w' hm => hsl w' hm.below) rfl rfl (len_el SmIn_len l) (one_int l) (by omega) (by omega) rfl fun v' => ?_
    rw [List.nil_append]
    repeat (first
      | refine QV QP ?_ | refine QZ ?_ | refine qcT rfl ?_ | refine qcF rfl ?_)
    refine E_ret1 rfl rfl fun w hm => ?_
    exact hm.meets (S := rowS 3 1 l.length (l.flatMap kit.intC) id) v' trivial [0] (by decide) (by simp [rowS])
end Go.Proofs.YtkcnoompimohnaaDoor.eng

/- MixX -/
namespace Go.Proofs.YtkcnoompimohnaaDoor.eng
open Go.RowKit kit mix
theorem OwnsP.perm {p : Nat → Prop} {w : World} {L L' : List Own} (h : OwnsP p w L) (hp : L.Perm L') : OwnsP p w L' := by
  have hpw : L.Pairwise (fun o o' => ∀ k, o.foot k → ¬ o'.foot k) := List.pairwise_iff_getElem.2 fun i j hi hj hij => h.apart i j _ _ (by omega) (List.getElem?_eq_getElem hi) (List.getElem?_eq_getElem hj)
  have hpw' := List.pairwise_iff_getElem.1 ((hp.pairwise_iff (fun hxy k h1 h2 => hxy k h2 h1)).1 hpw)
  refine ⟨fun i o hi => ?_, fun i j o o' hij hi hj k h1 h2 => ?_⟩
  · obtain ⟨j, hj⟩ := List.getElem?_of_mem (hp.symm.subset (List.mem_of_getElem? hi))
    exact h.all j o hj
  · obtain ⟨hi', rfl⟩ := List.getElem?_eq_some_iff.1 hi
    obtain ⟨hj', rfl⟩ := List.getElem?_eq_some_iff.1 hj
    rcases Nat.lt_or_gt_of_ne hij with h3 | h3
    · exact hpw' i j hi' hj' h3 k h1 h2
    · exact hpw' j i hj' hi' h3 k h2 h1
theorem Mem.perm {W : Base} {w : World} {L L' : List Own} (h : Mem W L w) (hp : L.Perm L') : Mem W L' w := ⟨h.low, h.owns.perm hp⟩
theorem look_perm {l l' : Fr} (hp : l.Perm l') : (l.map (·.1)).Nodup → ∀ (fr : Fr) (i : Nat), look (l ++ fr) i = look (l' ++ fr) i := by
  induction hp with
  | nil => intro _ _ _; rfl
  | cons x _ ih =>
    intro hn fr i
    rw [List.map_cons, List.nodup_cons] at hn
    obtain ⟨k, v⟩ := x
    show (bif Nat.beq k i then some v else _) = (bif Nat.beq k i then some v else _)
    have e := ih hn.2 fr i
    exact congrArg (fun z => bif Nat.beq k i then some v else z) e
  | swap x y l =>
    intro hn fr i
    obtain ⟨k, v⟩ := x
    obtain ⟨k2, v2⟩ := y
    simp only [List.map_cons, List.nodup_cons, List.mem_cons, not_or] at hn
    show (bif Nat.beq k2 i then some v2 else bif Nat.beq k i then some v else _) = (bif Nat.beq k i then some v else bif Nat.beq k2 i then some v2 else _)
    cases e : Nat.beq k2 i
    · rfl
    · cases e2 : Nat.beq k i
      · rfl
      · have a := Nat.eq_of_beq_eq_true e
        have b := Nat.eq_of_beq_eq_true e2
        exact absurd (a.trans b.symm) hn.1.1
  | trans h1 _ ih1 ih2 =>
    intro hn fr i
    rw [ih1 hn, ih2 ((h1.map _).nodup_iff.1 hn)]
theorem perm_lift {α β : Type} (f : α → β) {l l' : List β} (h : l.Perm l') : ∀ dn : List α, dn.map f = l → ∃ dn' : List α, dn'.Perm dn ∧ dn'.map f = l' := by
  induction h with
  | nil => exact fun dn h => ⟨dn, .refl _, h⟩
  | cons x _ ih =>
    intro dn h
    match dn, h with
    | y :: dn, h =>
      simp only [List.map_cons, List.cons.injEq] at h
      obtain ⟨d', h1, h2⟩ := ih dn h.2
      exact ⟨y :: d', h1.cons y, by simp [h.1, h2]⟩
  | swap x y l =>
    intro dn h
    match dn, h with
    | a :: b :: dn, h =>
      simp only [List.map_cons, List.cons.injEq] at h
      exact ⟨b :: a :: dn, List.Perm.swap _ _ _, by simp [h.1, h.2.1, h.2.2]⟩
  | trans _ _ ih1 ih2 =>
    intro dn h
    obtain ⟨d1, h1, h2⟩ := ih1 dn h
    obtain ⟨d2, h3, h4⟩ := ih2 d1 h2
    exact ⟨d2, h3.trans h1, h4⟩
def subs : List Nat → List (List Nat)
  | [] => [[]]
  | a :: r => subs r ++ (subs r).map (a :: ·)
theorem filter_subs (p : Nat → Bool) : ∀ l, l.filter p ∈ subs l
  | [] => by simp [subs]
  | a :: r => by
    have ih := filter_subs p r
    unfold subs
    rw [List.filter_cons]
    split
    · exact List.mem_append_right _ (List.mem_map_of_mem ih)
    · exact List.mem_append_left _ ih
/-- a maker of a region -/
structure Mk where
  i : Nat
  d : Nat
  v : Nat → Value
  own : Nat → Own
def frm (dn : List (Mk × Nat)) : Fr := dn.map fun x => (x.1.d, x.1.v x.2)
def owm (dn : List (Mk × Nat)) : List Own := dn.map fun x => x.1.own x.2
def markL (listed : Array Bool) (D : List Nat) : Array Bool := D.foldl (fun l i => l.setIfInBounds i true) listed
theorem markL_get (D : List Nat) : ∀ (listed : Array Bool) (j : Nat), (markL listed D)[j]? = (listed[j]?).map fun b => b || D.contains j := by
  induction D with
  | nil => intro listed j; simp [markL]
  | cons a r ih =>
    intro listed j
    show (markL (listed.setIfInBounds a true) r)[j]? = _
    rw [ih, Array.getElem?_setIfInBounds]
    by_cases c : a = j
    · subst c
      simp
      split <;> simp_all
    · rw [if_neg c]
      have : ¬ j = a := fun h => c h.symm
      simp [this]
theorem markL_same {listed : Array Bool} {D D' : List Nat} (h : ∀ j, D.contains j = D'.contains j) : markL listed D = markL listed D' := by
  apply Array.ext_getElem?
  intro j
  rw [markL_get, markL_get, h j]
def manyB (ops : Array Oper) (is : List Nat) (ends : List (List Nat)) (listed : Array Bool) : Bool := (subs is).all fun D => ends.contains D || decide (Region.ready .any ops (markL listed D) = is.filter fun i => !D.contains i)
theorem nodup_le : ∀ (l l' : List Nat), l.Nodup → (∀ x ∈ l, x ∈ l') → l.length ≤ l'.length
  | [], _, _, _ => Nat.zero_le _
  | a :: r, l', hn, hs => by
    rw [List.nodup_cons] at hn
    have ha := hs a (by simp)
    have := nodup_le r (l'.erase a) hn.2 fun x hx => (List.mem_erase_of_ne (fun (e : x = a) => hn.1 (by rw [← e]; exact hx))).2 (hs x (by simp [hx]))
    rw [List.length_erase_of_mem ha] at this
    have := List.length_pos_of_mem ha
    simp; omega
theorem nodup_perm : ∀ (l l' : List Nat), l.Nodup → (∀ x ∈ l, x ∈ l') → l'.length ≤ l.length → l.Perm l'
  | [], l', _, _, h => by
    have : l' = [] := List.length_eq_zero_iff.1 (by simpa using h)
    subst this; exact .refl _
  | a :: r, l', hn, hs, h => by
    rw [List.nodup_cons] at hn
    have ha := hs a (by simp)
    have hl := List.length_erase_of_mem ha
    have h2 := List.length_pos_of_mem ha
    have := nodup_perm r (l'.erase a) hn.2 (fun x hx => (List.mem_erase_of_ne (fun (e : x = a) => hn.1 (by rw [← e]; exact hx))).2 (hs x (by simp [hx]))) (by simp at h; omega)
    exact (this.cons a).trans (List.perm_cons_erase ha).symm
theorem inj_i : ∀ (ms : List Mk), (ms.map (·.i)).Nodup → ∀ m ∈ ms, ∀ m' ∈ ms, m.i = m'.i → m = m'
  | [], _, _, hm, _, _, _ => by cases hm
  | y :: ms, h, m, hm, m', hm', e => by
    rw [List.map_cons, List.nodup_cons] at h
    rcases List.mem_cons.1 hm with a1 | a1 <;> rcases List.mem_cons.1 hm' with a2 | a2
    · rw [a1, a2]
    · exact absurd (by rw [← a1, e]; exact List.mem_map_of_mem a2) h.1
    · exact absurd (by rw [← a2, ← e]; exact List.mem_map_of_mem a1) h.1
    · exact inj_i ms h.2 m a1 m' a2 e
theorem fst_of_i : ∀ (dn : List (Mk × Nat)) (ms all : List Mk), (∀ m ∈ all, ∀ m' ∈ all, m.i = m'.i → m = m') → (∀ x ∈ dn, x.1 ∈ all) → (∀ x ∈ ms, x ∈ all) → dn.map (·.1.i) = ms.map (·.i) → dn.map (·.1) = ms
  | [], ms, _, _, _, _, h => by
    simp only [List.map_nil] at h
    exact (List.map_eq_nil_iff.1 h.symm).symm
  | y :: dn, [], _, _, _, _, h => by simp at h
  | y :: dn, m :: ms, all, hi, h1, h2, h => by
    simp only [List.map_cons, List.cons.injEq] at h
    rw [List.map_cons, fst_of_i dn ms all hi (fun x hx => h1 x (by simp [hx])) (fun x hx => h2 x (by simp [hx])) h.2, hi y.1 (h1 y (by simp)) m (h2 m (by simp)) h.1]
section
variable {P : Program} {n : Nat} {W : Base} {Q : Exit → Act → World → Prop} {fr : Fr} {L L0 : List Own} {ops : Array Oper}
/-- what a maker does, from any frame that knows as much -/
def Makes (P : Program) (n : Nat) (W : Base) (ops : Array Oper) (fr : Fr) (m : Mk) : Prop :=
  ∃ o, ops[m.i]? = some o ∧ ∀ (Q : Exit → Act → World → Prop) (fr' : Fr) (L : List Own), (∀ q v, look fr q = some v → look fr' q = some v) → (∀ g, TL P n W ops Q [] ((m.d, m.v g) :: fr') (L ++ [m.own g])) → TL P n W ops Q [o] fr' L
theorem look_none : ∀ (l : Fr) {q : Nat} {v : Value}, (∀ x ∈ l, look fr x.1 = none) → look fr q = some v → look (l ++ fr) q = some v
  | [], _, _, _, h => h
  | (k, u) :: l, q, v, hl, h => by
    show (bif Nat.beq k q then some u else look (l ++ fr) q) = some v
    cases e : Nat.beq k q
    · exact look_none l (fun x hx => hl x (by simp [hx])) h
    · have := Nat.eq_of_beq_eq_true e
      subst this
      have := hl (k, u) (by simp)
      rw [this] at h
      cases h
theorem Rep.perm {a : Act} {l l' : Fr} (h : Rep n a (l ++ fr)) (hp : l.Perm l') (hn : (l.map (·.1)).Nodup) : Rep n a (l' ++ fr) :=
  ⟨h.size, h.defers, fun i v hl => h.get i v (by rw [look_perm hp hn fr i]; exact hl)⟩
theorem pick_g : ∀ (dn : List (Mk × Nat)), (dn.map (·.1.i)).Nodup → ∃ g : Nat → Nat, ∀ x ∈ dn, g x.1.i = x.2
  | [], _ => ⟨fun _ => 0, fun x hx => by cases hx⟩
  | y :: dn, h => by
    rw [List.map_cons, List.nodup_cons] at h
    obtain ⟨g, hg⟩ := pick_g dn h.2
    refine ⟨fun i => if i = y.1.i then y.2 else g i, fun x hx => ?_⟩
    rcases List.mem_cons.1 hx with rfl | hx
    · simp
    · have : ¬ x.1.i = y.1.i := fun e => h.1 (by rw [← e]; exact List.mem_map_of_mem hx)
      simp only [if_neg this]
      exact hg x hx
theorem many_canon (ms E : List Mk) (hn : (ms.map (·.i)).Nodup) (hEn : (E.map (·.i)).Nodup) (hEd : (E.map (·.d)).Nodup) (hE : ∀ m ∈ E, m ∈ ms) (dn : List (Mk × Nat)) (h1 : ∀ x ∈ dn, x.1 ∈ ms) (hp : (dn.map (·.1.i)).Perm (E.map (·.i))) (a : Act) (hr : Rep n a (frm dn ++ fr)) :
    ∃ g : Nat → Nat, Rep n a (E.map (fun m => (m.d, m.v (g m.i))) ++ fr) ∧ Mem W (L ++ owm dn) = Mem W (L ++ E.map fun m => m.own (g m.i)) := by
  obtain ⟨d', p1, p2⟩ := perm_lift (fun x : Mk × Nat => x.1.i) hp dn rfl
  have e1 := fst_of_i d' E ms (inj_i ms hn) (fun x hx => h1 x (p1.subset hx)) hE p2
  obtain ⟨g, hg⟩ := pick_g d' (by rw [p2]; exact hEn)
  have e2 : d' = E.map fun m => (m, g m.i) := by
    rw [← e1, List.map_map]
    conv => lhs; rw [← List.map_id d']
    exact List.map_congr_left fun x hx => by
      obtain ⟨m, q⟩ := x
      have := hg _ hx
      dsimp only at this
      simp [this]
  have hpd : ((frm dn).map (·.1)).Nodup := by
    have : ((frm dn).map (·.1)).Perm (E.map (·.d)) := by
      have h5 := (p1.map fun x : Mk × Nat => x.1.d).symm
      have e : d'.map (fun x : Mk × Nat => x.1.d) = E.map (·.d) := by rw [← e1, List.map_map]; rfl
      rw [e] at h5
      unfold frm
      rw [List.map_map]
      exact h5
    exact this.nodup_iff.2 hEd
  have hr' := hr.perm (p1.map _).symm hpd
  refine ⟨g, ?_, ?_⟩
  · have : d'.map (fun x => (x.1.d, x.1.v x.2)) = E.map (fun m => (m.d, m.v (g m.i))) := by rw [e2, List.map_map]; rfl
    rw [← this]; exact hr'
  · have e : E.map (fun m => m.own (g m.i)) = owm d' := by rw [e2, owm, List.map_map]; rfl
    rw [e]
    exact funext fun w => propext ⟨fun h => h.perm (((p1.map _).symm).append_left L), fun h => h.perm ((p1.map _).append_left L)⟩
theorem many_go (ms : List Mk) (ends : List (List Mk)) (listed : Array Bool) (U : World → Prop) (S0 : Nat) (hUL : ∀ l, ∀ w, Mem W (L ++ l) w → U w)
    (hn : (ms.map (·.i)).Nodup) (hd : (ms.map (·.d)).Nodup) (hB : manyB ops (ms.map (·.i)) (ends.map fun E => E.map (·.i)) listed = true) (hm : ∀ m ∈ ms, Makes P n W ops fr m) (hf : ∀ m ∈ ms, look fr m.d = none)
    (hEnd : ∀ E ∈ ms :: ends, (∀ m ∈ E, m ∈ ms) ∧ (E.map (·.i)).Nodup ∧ (E.map (·.d)).Nodup ∧ ∀ (k : Nat) (g : Nat → Nat) (a : Act), E.length + k = ms.length → Rep n a (E.map (fun m => (m.d, m.v (g m.i))) ++ fr) → wpAnyV P .any ops Q U (k + S0) (markL listed (E.map (·.i))) a (Mem W (L ++ E.map fun m => m.own (g m.i)))) :
    ∀ (k : Nat) (dn : List (Mk × Nat)), (∀ x ∈ dn, x.1 ∈ ms) → (dn.map (·.1.i)).Nodup → dn.length + k = ms.length → ∀ a, Rep n a (frm dn ++ fr) → wpAnyV P .any ops Q U (k + S0) (markL listed (dn.map (·.1.i))) a (Mem W (L ++ owm dn)) := by
  have stop : ∀ E ∈ ms :: ends, ∀ (k : Nat) (dn : List (Mk × Nat)), (∀ x ∈ dn, x.1 ∈ ms) → (dn.map (·.1.i)).Nodup → dn.length + k = ms.length → (dn.map (·.1.i)).Perm (E.map (·.i)) → ∀ a, Rep n a (frm dn ++ fr) → wpAnyV P .any ops Q U (k + S0) (markL listed (dn.map (·.1.i))) a (Mem W (L ++ owm dn)) := by
    intro E hE k dn h1 h2 h3 hp a hr
    obtain ⟨q1, q2, q3, q4⟩ := hEnd E hE
    obtain ⟨g, r1, r2⟩ := many_canon (W := W) (L := L) ms E hn q2 q3 q1 dn h1 hp a hr
    have hlen := hp.length_eq
    simp only [List.length_map] at hlen
    rw [r2, markL_same (D' := E.map (·.i)) fun j => ?_]
    · exact q4 k g a (by omega) r1
    · exact Bool.eq_iff_iff.2 (by simpa using hp.mem_iff)
  intro k
  induction k with
  | zero =>
    intro dn h1 h2 h3 a hr
    exact stop ms (by simp) 0 dn h1 h2 h3 (nodup_perm (dn.map (·.1.i)) (ms.map (·.i)) h2 (fun x hx => by
      obtain ⟨y, hy, rfl⟩ := List.mem_map.1 hx
      exact List.mem_map_of_mem (f := (·.i)) (h1 y hy)) (by simp; omega)) a hr
  | succ k ih =>
    intro dn h1 h2 h3 a hr
    have hstop := fun E hE hp => stop E hE (k + 1) dn h1 h2 h3 hp a hr
    have hsub : ∀ x ∈ dn.map (·.1.i), x ∈ ms.map (·.i) := fun x hx => by
      obtain ⟨y, hy, rfl⟩ := List.mem_map.1 hx
      exact List.mem_map_of_mem (f := (·.i)) (h1 y hy)
    generalize hD : dn.map (·.1.i) = D at *
    have hlenD : D.length = dn.length := by rw [← hD]; simp
    have hsame : ∀ j, D.contains j = ((ms.map (·.i)).filter fun i => D.contains i).contains j := fun j => by
      apply Bool.eq_iff_iff.2
      simp only [List.contains_iff_mem, List.mem_filter]
      exact ⟨fun h => ⟨hsub j h, h⟩, fun h => h.2⟩
    have hq := List.all_eq_true.1 hB _ (filter_subs (fun i => D.contains i) (ms.map (·.i)))
    rw [Bool.or_eq_true] at hq
    rcases hq with hq | hq
    · rw [List.contains_iff_mem] at hq
      obtain ⟨E, hE, e⟩ := List.mem_map.1 hq
      refine hstop E (by simp [hE]) ?_
      rw [e]
      refine nodup_perm _ _ h2 (fun x hx => List.mem_filter.2 ⟨hsub x hx, by simpa using hx⟩) ?_
      exact nodup_le _ _ (hn.filter _) fun x hx => by simpa using (List.mem_filter.1 hx).2
    have hready : Region.ready .any ops (markL listed D) = (ms.map (·.i)).filter fun i => !D.contains i := by
      have hq := of_decide_eq_true hq
      rw [markL_same hsame, hq]
      exact List.filter_congr fun i _ => by rw [← hsame i]
    rw [show k + 1 + S0 = (k + S0) + 1 by omega]
    refine ⟨fun h0 => ?_, fun i hi w hw => ?_⟩
    · exfalso
      have : (ms.map (·.i)).length ≤ D.length := nodup_le _ _ hn fun x hx => by
        rw [hready] at h0
        have := List.filter_eq_nil_iff.1 h0 x hx
        simpa using this
      simp at this
      omega
    · rw [hready, List.mem_filter] at hi
      obtain ⟨hi1, hi2⟩ := hi
      obtain ⟨m, hm1, rfl⟩ := List.mem_map.1 hi1
      have hi3 : m.i ∉ D := by simpa using hi2
      obtain ⟨o, ho, hmk⟩ := hm m hm1
      refine wpOp_of_list ho ((hmk _ (frm dn ++ fr) (L ++ owm dn) (fun q v hq => look_none (frm dn) (fun x hx => ?_) hq) fun g => ?_).go a w hr hw)
      · obtain ⟨y, hy, rfl⟩ := List.mem_map.1 hx
        exact hf y.1 (h1 y hy)
      · refine TL_nil ⟨fun a' w' hr' hm' => ⟨Mem W (L ++ owm ((m, g) :: dn)), closed_mem _ _, hUL _, hm'.perm ?_, ?_⟩⟩
        · rw [List.append_assoc]
          exact (List.perm_append_comm).append_left L
        · have := ih ((m, g) :: dn) (fun x hx => by
            rcases List.mem_cons.1 hx with rfl | hx
            · exact hm1
            · exact h1 x hx) (by rw [List.map_cons, hD, List.nodup_cons]; exact ⟨hi3, h2⟩) (by simp; omega) a' hr'
          rw [List.map_cons, hD] at this
          have e : (markL listed D).setIfInBounds m.i true = markL listed (m.i :: D) := by
            have e0 : (markL listed D).setIfInBounds m.i true = markL listed (D ++ [m.i]) := by
              unfold markL; rw [List.foldl_append]; rfl
            rw [e0]
            exact markL_same fun j => by
              apply Bool.eq_iff_iff.2
              simp [or_comm]
          rw [e]
          exact this
/-- a region that draws, with some of it listed -/
structure TX (P : Program) (n : Nat) (W : Base) (ops : Array Oper) (Q : Exit → Act → World → Prop) (L0 : List Own) (listed : Array Bool) (f : Nat) (fr : Fr) (L : List Own) : Prop where
  go : (∀ w, Mem W L w → Mem W L0 w) → (∀ c a d v w, Q (.panic c) (Act.put a d v) w → Q (.panic c) a w) → Region.noSelect ops = true → ∀ a, Rep n a fr → wpAnyV P .any ops Q (Mem W L0) f listed a (Mem W L)
theorem mem_left {L l : List Own} {w : World} (h : Mem W (L ++ l) w) : Mem W L w := by
  have hl : ∀ (i : Nat) (o : Own), L[i]? = some o → (L ++ l)[i]? = some o := fun i o h => by
    rw [List.getElem?_append_left (List.getElem?_eq_some_iff.1 h).1]; exact h
  exact ⟨h.low, ⟨fun i o hi => h.owns.all i o (hl i o hi), fun i j o o' hij hi hj => h.owns.apart i j o o' hij (hl i o hi) (hl j o' hj)⟩⟩
theorem T_ordX {id : Nat} {l : List Oper} (L0 : List Own) (hsub : ∀ w, Mem W L w → Mem W L0 w) (hm : P.follows .mixedOrders = true) (hsel : Region.noSelect l.toArray = true)
    (hQ : ∀ c a d v w, Q (.panic c) (Act.put a d v) w → Q (.panic c) a w)
    (h : TX P n W l.toArray Q L0 (Array.replicate l.toArray.size false) l.toArray.size fr L) : T P n W (.region id l.toArray true) Q fr L := ⟨fun a w hr hmm => by
  refine wp_region_any hm ?_
  exact wpAny_of_V (U := Mem W L0) l.toArray.size (Array.replicate l.toArray.size false) a (Mem W L) w.drew hmm.drew (h.go hsub hQ hsel a hr)⟩
theorem TX_tree {listed : Array Bool} {f : Nat} (t : Ord) (ho : orderO .any ops t listed = true) (hf : f = t.size) (h : TW P n W ops Q L0 t fr L) : TX P n W ops Q L0 listed f fr L :=
  ⟨fun hsub hQ hsel a hr => by subst hf; exact wpAnyV_ord hsel hQ t listed a (Mem W L) (closed_mem W L) hsub ho (h.go a hr)⟩
theorem TX_val {listed : Array Bool} {f d : Nat} {o : Oper} {v : Value} (i : Nat) (hi : ((Region.ready .any ops listed).contains i && Region.free .any ops listed i) = true) (ho : ops[i]? = some o) (hr : RR P n W o fr L0 v) (hg : o.guard = none) (hd : o.dst = some d) (hn : Nat.blt d n = true)
    (h : TX P n W ops Q L0 (listed.setIfInBounds i true) f ((d, v) :: fr) L) : TX P n W ops Q L0 listed (f + 1) fr L := ⟨fun hsub hQ hsel a hrep => by
  rw [Bool.and_eq_true] at hi
  have hc : CalmIn P ops (Mem W L0) o v a := .inl ⟨wanted_none hg, fun w hw => by unfold calmAt; rw [hr.go a w hrep hw]; exact ⟨rfl, Gr.refl _⟩⟩
  exact wpAnyV_first ho (Region.noSelect_spec hsel) (fun c a w => hQ c a o.dst v w) f listed a (Mem W L) (closed_mem W L) hsub (Region.free_spec ho hi.2) (by simpa using hi.1) hc
    (by rw [hd]; exact h.go hsub hQ hsel _ (hrep.put hn v))⟩
def manyOk (ops : Array Oper) (ms : List Mk) (ends : List (List Nat)) (listed : Array Bool) (fr : Fr) : Bool :=
  decide (ms.map (·.i)).Nodup && decide (ms.map (·.d)).Nodup && manyB ops (ms.map (·.i)) ends listed && ms.all fun m => (look fr m.d).isNone
/-- where some of them being done sets another operation free (ps tells the places of such a set): a walk of its own from there -/
theorem TX_many2 {listed : Array Bool} {f : Nat} (ms : List Mk) (p : Mk → Bool) (S0 : Nat) (hf : f = ms.length + S0) (hB : manyOk ops ms [ms.map (·.i), (ms.filter p).map (·.i)] listed fr = true) (hm : ∀ m ∈ ms, Makes P n W ops fr m)
    (h : ∀ g : Nat → Nat, TX P n W ops Q L0 (markL listed (ms.map (·.i))) S0 (ms.map (fun m => (m.d, m.v (g m.i))) ++ fr) (L ++ ms.map fun m => m.own (g m.i)))
    (h' : ∀ g : Nat → Nat, TX P n W ops Q L0 (markL listed ((ms.filter p).map (·.i))) (ms.length - (ms.filter p).length + S0) ((ms.filter p).map (fun m => (m.d, m.v (g m.i))) ++ fr) (L ++ (ms.filter p).map fun m => m.own (g m.i))) : TX P n W ops Q L0 listed f fr L := ⟨fun hsub hQ hsel a hr => by
  subst hf
  simp only [manyOk, Bool.and_eq_true, decide_eq_true_eq] at hB
  obtain ⟨⟨⟨b1, b2⟩, b3⟩, b4⟩ := hB
  have := many_go (Q := Q) (L := L) ms [ms, ms.filter p] listed (Mem W L0) S0 (fun l w hw => hsub w (mem_left hw)) b1 b2 b3 hm (fun m hm => by simpa using List.all_eq_true.1 b4 m hm)
    (fun E hE => by
      have hE : E = ms ∨ E = ms.filter p := by
        simp only [List.mem_cons, List.not_mem_nil, or_false] at hE
        rcases hE with h | h | h
        · exact .inl h
        · exact .inl h
        · exact .inr h
      rcases hE with rfl | rfl
      · exact ⟨fun _ h => h, b1, b2, fun k g a hk hr => by
          obtain rfl : k = 0 := by omega
          rw [Nat.zero_add]
          exact (h g).go (fun w hw => hsub w (mem_left hw)) hQ hsel a hr⟩
      · exact ⟨fun _ h => (List.mem_filter.1 h).1, b1.sublist (List.filter_sublist.map _), b2.sublist (List.filter_sublist.map _), fun k g a hk hr => by
          obtain rfl : k = ms.length - (ms.filter p).length := by omega
          exact (h' g).go (fun w hw => hsub w (mem_left hw)) hQ hsel a hr⟩) ms.length [] (fun x hx => by cases hx) (by simp) (by simp) a hr
  simpa [markL, owm] using this⟩
theorem ev_mono {fr fr' : Fr} (h : ∀ q v, look fr q = some v → look fr' q = some v) {x : Operand} {v : Value} (hx : ev fr x = some v) : ev fr' x = some v := by
  cases x with
  | tmp t => exact h _ _ hx
  | _ => exact hx
theorem makes_slice {i d : Nat} {t e ty : TypeId} {pos : String} {after : Array Edge} {x y : Operand} {c bytes m cap : Nat} {k k' : IntKind} {zs : Array Value} [ElC P t e c bytes] [ZeroC P e zs] (ho : ops[i]? = some ⟨some d, .makeSlice t x y, ty, pos, after, none⟩) (hx : ev fr x = some (.int k (m : Int))) (hy : ev fr y = some (.int k' (cap : Int))) (hmc : m ≤ cap) (hb : bytes * cap ≤ 281474976710656) (h63 : cap ≤ 9223372036854775807) (hn : Nat.blt d n = true) :
    Makes P n W ops fr ⟨i, d, fun g => .slice (some ⟨g, 0, none⟩) m cap, fun g => blkO g (madeCells zs (cap * c)) e⟩ :=
  ⟨_, ho, fun _ _ _ hl h => TL_makeB (ev_mono hl hx) (ev_mono hl hy) hmc hb h63 hn h⟩
theorem makes_new {i d : Nat} {t ty : TypeId} {pos : String} {after : Array Edge} {cs : Array Value} [ZeroC P t cs] (ho : ops[i]? = some ⟨some d, .alloc t, ty, pos, after, none⟩) (hn : Nat.blt d n = true) :
    Makes P n W ops fr ⟨i, d, fun g => .pointer (some ⟨g, 0, none⟩), fun g => blkO g cs t⟩ :=
  ⟨_, ho, fun _ _ _ _ h => TL_new hn h⟩
end
end Go.Proofs.YtkcnoompimohnaaDoor.eng

/- SmA -/
namespace Go.Proofs.YtkcnoompimohnaaDoor.eng
open Go.RowKit kit mix dfaL smallL
section
variable {P : Program} {k : TypeId} {κ : Type} (K : KeyT P k κ) [DecidableEq κ]
variable {W : Base} {fr : Fr} {L : List Own} {Q : Exit → Act → World → Prop} {ops : Array Oper} {rest : List Oper} {n d : Nat} {ty : TypeId} {pos : String} {after : Array Edge} {i g b : Nat} {t e : TypeId} {f : κ → Value} {x : κ} {z v : Value} {xm xk xv : Operand}
end
theorem wrapU8 {k : Nat} (h : k < 256) : IntKind.u8.wrap (k : Int) = (k : Int) := by
  rw [IntKind.wrap_u8]; omega
end Go.Proofs.YtkcnoompimohnaaDoor.eng

/- SmPk -/
namespace Go.Proofs.YtkcnoompimohnaaDoor.eng
open Go.RowKit kit mix dfaL smallL
/-- all pairs, one behind the other -/
def cant : Nat → Nat × Nat
  | 0 => (0, 0)
  | n + 1 => match cant n with
    | (a, 0) => (0, a + 1)
    | (a, b + 1) => (a + 1, b)
theorem cant_all : ∀ (s a b : Nat), a + b = s → ∃ n, cant n = (a, b)
  | 0, a, b, h => ⟨0, by obtain rfl : a = 0 := (by omega); obtain rfl : b = 0 := (by omega); rfl⟩
  | s + 1, 0, b, h => by
    obtain rfl : b = s + 1 := by omega
    obtain ⟨n, hn⟩ := cant_all s s 0 (by omega)
    exact ⟨n + 1, by simp [cant, hn]⟩
  | s + 1, a + 1, b, h => by
    obtain ⟨n, hn⟩ := cant_all (s + 1) a (b + 1) (by omega)
    exact ⟨n + 1, by simp [cant, hn]⟩
def slCant (m x : Nat) : Value := .slice (some ⟨(cant x).1, 0, none⟩) m (cant x).2
section
variable {P : Program} {n : Nat} {W : Base} {fr : Fr} {ops : Array Oper}
theorem makes_A {i d : Nat} {α : Type} (val : α → Value) (z : α) {t e ty : TypeId} {pos : String} {after : Array Edge} {x y : Operand} {bytes m : Nat} {k k' : IntKind} [ElC P t e 1 bytes] [ZeroC P e #[val z]] (ho : ops[i]? = some ⟨some d, .makeSlice t x y, ty, pos, after, none⟩) (hx : ev fr x = some (.int k (m : Int))) (hy : ev fr y = some (.int k' (m : Int))) (hb : bytes * m ≤ 281474976710656) (h63 : m ≤ 9223372036854775807) (hn : Nat.blt d n = true) :
    Makes P n W ops fr ⟨i, d, fun g => .slice (some ⟨g, 0, none⟩) m m, fun g => rowA e val g m fun _ => z⟩ :=
  ⟨_, ho, fun _ _ _ hl h => TL_makeA val z (ev_mono hl hx) (ev_mono hl hy) hb h63 hn h⟩
/-- a call that answers a new row, which is not empty -/
theorem makes_row {i d : Nat} {o : Oper} {f : FuncId} {args : Array Value} {e : TypeId} {size m : Nat} {xs : List Value} (ho : ops[i]? = some o) (he : ∀ fr', (∀ q v, look fr q = some v → look fr' q = some v) → ∀ a w, Rep n a fr' → (execOp a.eval o).run P w = .ok (.enter f args) w)
    (hc : ∀ (L : List Own) w, Mem W L w → Calls P f args w (Meets (rowS e size m xs id) w)) (hm : 0 < m) (hg : o.guard = none) (hd : o.dst = some d) (hn : Nat.blt d n = true) :
    Makes P n W ops fr ⟨i, d, slCant m, fun x => rowO e size (slCant m x) m xs⟩ :=
  ⟨o, ho, fun Q fr' L hl h => TL_call (he fr' hl) (fun w hw => hc L w hw) hg hd hn fun v _ => .mk fun a w hr hw => by
    have hw' : (rowO e size v m xs).holds w := hw.get (i := L.length) (by simp [rowS])
    obtain ⟨G, cap, hv, _, _, _⟩ := row_form hw'
    cases G with
    | none =>
      rcases hw'.2 with ⟨_, h0⟩ | ⟨g, cap', cur, hv', _⟩
      · omega
      · rw [hv'] at hv; cases hv
    | some g =>
      obtain ⟨x, hx⟩ := cant_all _ g cap rfl
      have e : v = slCant m x := by rw [hv]; unfold slCant; rw [hx]; rfl
      have := h x
      dsimp only at this
      rw [← e] at this
      exact this.go a w hr hw⟩
end
theorem TL_storeCol {P : Program} {n : Nat} {W : Base} {fr : Fr} {L : List Own} {Q : Exit → Act → World → Prop} {ops : Array Oper} {rest : List Oper} {ty : TypeId} {pos : String} {after : Array Edge} {t : TypeId} {p x : Operand} {i g b : Nat} {c : Col} {T : TypeId} {agg : Bool} {z : Int} [hT : TyC P t agg 1] (hi : L[i]? = some (blkO g (colC c).toArray T)) (hp : ev fr p = some (.pointer (some ⟨g, 0 + b, none⟩))) (hx : ev fr x = some (.int .i16 z)) (hb : b < 200)
    (h : TL P n W ops Q rest fr (L.set i (blkO g (colC (c.set b z)).toArray T))) : TL P n W ops Q (⟨none, .store t p x, ty, pos, after, none⟩ :: rest) fr L := by
  rw [Nat.zero_add] at hp
  refine TL_store1 hi hp hx rfl rfl ?_ ?_
  · rw [List.size_toArray, colC_len]; exact Nat.blt_eq ▸ hb
  · rw [col_set c hb]; exact h
abbrev valV (v : Value) : Value := v
def mkNx (n : Nat) : Mk := ⟨3, 24, fun g => .slice (some ⟨g, 0, none⟩) n n, fun g => rowA 24 valV g n fun _ => .slice none 0 0⟩
def mkTg (tags : List Int) : Mk := ⟨6, 27, slCant tags.length, fun x => rowO 3 1 (slCant tags.length x) tags.length (tags.flatMap kit.intC)⟩
def mkPk : Mk := ⟨8, 5, fun g => .pointer (some ⟨g, 0, none⟩), fun g => blkO g (List.replicate 256 (Value.int .u8 0) ++ ([.slice none 0 0, .slice none 0 0] : List Value)).toArray 46⟩
/-- the rows of Next, the columns being D -/
def nxO (n : Nat) (D : List Col) (vs : Nat → Value) : Own := famP (fun i => i < n) fun i => rowO 3 1 (vs i) D.length ((nxL D i).flatMap kit.intC)
/-- on the way: the first j rows have the column col, too -/
def nxM (n : Nat) (D : List Col) (col : Col) (j : Nat) (vs : Nat → Value) : Own := famP (fun i => i < n) fun i => rowO 3 1 (vs i) (if i < j then D ++ [col] else D).length ((nxL (if i < j then D ++ [col] else D) i).flatMap kit.intC)
theorem nxM_0 (n : Nat) (D : List Col) (col : Col) (vs : Nat → Value) : nxM n D col 0 vs = nxO n D vs := by
  unfold nxM nxO
  simp
theorem nxM_end (n : Nat) (D : List Col) (col : Col) (vs : Nat → Value) (i : Nat) (h : i < n) : (fun i => rowO 3 1 (vs i) (D ++ [col]).length ((nxL (D ++ [col]) i).flatMap kit.intC)) i = (fun i => rowO 3 1 (vs i) (if i < n then D ++ [col] else D).length ((nxL (if i < n then D ++ [col] else D) i).flatMap kit.intC)) i := by
  dsimp only
  rw [if_pos h]
theorem TL_storeOf {P : Program} {n : Nat} {W : Base} {fr : Fr} {L : List Own} {Q : Exit → Act → World → Prop} {ops : Array Oper} {rest : List Oper} {ty : TypeId} {pos : String} {after : Array Edge} {t : TypeId} {p x : Operand} {i g b z : Nat} {o : Of} {vn vt : Value} {T : TypeId} {agg : Bool} [hT : TyC P t agg 1] (hi : L[i]? = some (blkO g (pkC o vn vt).toArray T)) (hp : ev fr p = some (.pointer (some ⟨g, 0 + b, none⟩))) (hx : ev fr x = some (.int .u8 (z : Int))) (hb : b < 256)
    (h : TL P n W ops Q rest fr (L.set i (blkO g (pkC (o.set b z) vn vt).toArray T))) : TL P n W ops Q (⟨none, .store t p x, ty, pos, after, none⟩ :: rest) fr L := by
  rw [Nat.zero_add] at hp
  refine TL_store1 hi hp hx rfl rfl ?_ ?_
  · rw [pk_size]; exact Nat.blt_eq ▸ (by omega)
  · rw [pk_set o vn vt hb]; exact h
theorem nx_put {j : Nat} {D : List Col} {col : Col} {vs : Nat → Value} {v2 : Value} {x : Int} (h : nxL (D ++ [col]) j = nxL D j ++ [x]) (q : Nat) :
    (fun i => rowO 3 1 ((fun i => if i = j then v2 else vs i) i) (if i < j + 1 then D ++ [col] else D).length ((nxL (if i < j + 1 then D ++ [col] else D) i).flatMap kit.intC)) q
      = upd (fun i => rowO 3 1 (vs i) (if i < j then D ++ [col] else D).length ((nxL (if i < j then D ++ [col] else D) i).flatMap kit.intC)) j (rowO 3 1 v2 (D.length + 1) ((nxL D j).flatMap kit.intC ++ [.int .i64 x])) q := by
  unfold upd
  dsimp only
  by_cases c : q = j
  · subst c
    rw [if_pos rfl, if_pos rfl, if_pos (Nat.lt_succ_self q), h, List.length_append, List.flatMap_append]; rfl
  · rw [if_neg c, if_neg c]
    have e : q < j + 1 ↔ q < j := by omega
    simp only [e]
def packS (R : List Row) (tags : List Int) : Spec (Nat × (Nat → Value) × Value) := ⟨fun _ => True, fun x => .tuple #[pkV (ofS R 256) (.slice (some ⟨x.1, 0, none⟩) R.length R.length) x.2.2, .int .i64 0],
  fun x => [rowA 24 valV x.1 R.length x.2.1, nxO R.length (pkD R 256) x.2.1, rowO 3 1 x.2.2 tags.length (tags.flatMap kit.intC)]⟩
set_option maxRecDepth 100000 in
set_option maxHeartbeats 8000000 in
theorem pack_calls (vr vt : Value) (R : List Row) (tags : List Int) (w : World) (h : DfaM w vr vt R tags) (hc : chk R tags = 0) :
    Calls Tryd.prog 12 #[dfaV vr vt] w (Meets (packS R tags) w) := by
  have hck := fun w' (hg : Gr w w') => chkM_calls vr vt R tags w' (h.gr hg)
  rw [hc] at hck
  have hcl := fun w' (hg : Gr w w') hl => cloneSmIn_calls vt tags w' (h.hT.gr hg) hl
  obtain ⟨bt, ct, rfl, ht1, ht2, ht3⟩ := h.hT
  obtain ⟨br, cr, rfl, hr1, hr2, hr3⟩ := h.hR
  have hrng := h.rng
  unfold maxLen at hr2 ht2
  clear h
  obtain ⟨hA, hlt⟩ := chk_ok hc
  have hpos : 0 < R.length := hA.pos
  have hle : R.length ≤ 200 := hA.le
  clear hA hc
  obtain ⟨b, off, rfl, hr⟩ := hr3 hpos
  obtain ⟨bb, ofT, rfl, hrt⟩ := ht3 (by omega)
  clear hr3 ht3 hrt
  have hcl := fun w' hg => hcl w' hg (by omega)
  have hb0 := build_pk0
  refine enter (args := [dfaV (.slice (some ⟨b, off, none⟩) R.length cr) (.slice (some ⟨bb, ofT, none⟩) tags.length ct)]) (n := 91) Tryd.func12 rfl rfl rfl ?_
  refine T_seq (T_region (TL_box rfl rfl rfl fun g1 => ?_))
  refine TL_new rfl fun g2 => ?_
  rw [zero_pk]
  conv => arg 8; simp only [zA, zB, zC, zD, zE, zF, zG, zH, zI, rowS, ret, id_eq]
  repeat (first
    | refine QV QP ?_ | refine QZ ?_ | refine qcT rfl ?_ | refine qcF rfl ?_ | refine E_blockX ?_ | refine E_blockO rfl ?_
    | refine QV (rr_loadB (i := 0) TyC.ty rfl rfl rfl) ?_ | refine QV QL ?_ | refine QV QA ?_ | refine QV (rr_not rfl rfl) ?_ | refine QV QlT ?_
    | refine QV QlF ?_ | refine QV QnT ?_ | refine QV QnF ?_ | refine QV QaA ?_)
  refine TL_call (he1 EntersC.en rfl rfl) (fun w hm => hck _ hm.below) rfl rfl rfl ?_
  intro _ _
  repeat (first
    | refine QV QP ?_ | refine QZ ?_ | refine qcT rfl ?_ | refine qcF rfl ?_ | refine E_blockX ?_ | refine E_blockO rfl ?_ | refine QV QL ?_
    | refine QV QA ?_ | refine QV (rr_not rfl rfl) ?_ | refine QV QlT ?_ | refine QV QlF ?_ | refine QV QnT ?_ | refine QV QnF ?_ | refine QV QaA ?_)
  (repeat refine T_seq ?_)
  refine T_midq (ι := Nat × Nat × Nat) (fun _ => True) (fun (_, _, g5) => [(1, .pointer (some ⟨g1, 0, none⟩)), (2, .pointer (some ⟨g2, 0, none⟩)), (5, .pointer (some ⟨g5, 0, none⟩))])
    (fun (gN, x, g5) => [blkO g1 (dfaV (.slice (some ⟨b, off, none⟩) R.length cr) (.slice (some ⟨bb, ofT, none⟩) tags.length ct)).cells 26, blkO g2 (pkC (Vector.replicate 256 0) (.slice none 0 0) (.slice none 0 0)).toArray 46, rowA 24 valV gN R.length (fun _ => .slice none 0 0), rowO 3 1 (slCant tags.length x) tags.length (tags.flatMap kit.intC), blkO g5 (pkC (ofS R 0) (.slice (some ⟨gN, 0, none⟩) R.length R.length) (slCant tags.length x)).toArray 46]) ?_ ?_
  · refine T_ordX [blkO g1 (dfaV (.slice (some ⟨b, off, none⟩) R.length cr) (.slice (some ⟨bb, ofT, none⟩) tags.length ct)).cells 26] (sub_pick [0] (by decide) rfl) (by kernel_rfl) (by kernel_rfl) (by intro c a d v w h; cases d <;> exact h) ?_
    refine TX_val 0 (by kernel_rfl) rfl (qfld FldC.fld rfl rfl) rfl rfl rfl ?_
    refine TX_val 1 (by kernel_rfl) rfl (rr_load1 TyC.ty rfl (at_blk (i := 0) rfl rfl)) rfl rfl rfl ?_
    refine TX_val 2 (by kernel_rfl) rfl (qlen Und.eq rfl) rfl rfl rfl ?_
    refine TX_val 4 (by kernel_rfl) rfl (qfld FldC.fld rfl rfl) rfl rfl rfl ?_
    refine TX_val 5 (by kernel_rfl) rfl (rr_load1 TyC.ty rfl (at_blk (i := 0) rfl rfl)) rfl rfl rfl ?_
    refine TX_many2 [mkNx R.length, mkTg tags, mkPk] (fun m => !Nat.beq m.i 8) 2 (by kernel_rfl) (by kernel_rfl) ?_ (fun q => ?_) fun q => ?_
    · intro m hm
      simp only [List.mem_cons, List.not_mem_nil, or_false] at hm
      rcases hm with rfl | rfl | rfl
      · exact makes_A valV _ rfl rfl rfl (by omega) (by omega) rfl
      · exact makes_row rfl (fun fr' hl => he1 EntersC.en rfl (ev_mono hl rfl)) (fun L w hm => hcl w hm.below) (by omega) rfl rfl rfl
      · exact makes_new rfl rfl
    · simp only [mkNx, mkTg, mkPk, List.map_cons, List.map_nil]
      generalize q 3 = gN
      generalize q 6 = x
      generalize q 8 = g5
      clear q
      rw [zero_pk]
      refine TX_tree (.calm 7 (.one 9 .done)) (by kernel_rfl) rfl ?_
      repeat (first
        | ((first | refine TW_plain rfl rfl ?_ | refine TW_gmet rfl rfl rfl rfl ?_); first | refine QW QP ?_ | refine QW (rr_build rfl (build_pk _ _ _ _ _)) ?_ | refine QW QL ?_ | refine QW QA ?_ | refine QW (rr_not rfl rfl) ?_ | refine QW QlT ?_ | refine QW QlF ?_ | refine QW QnT ?_ | refine QW QnF ?_ | refine QW QaA ?_)
        | refine TW_done ?_)
      refine TW_one rfl ?_
      refine TL_storeB (i := 4) (cs' := (pkC (Vector.replicate 256 0) (.slice (some ⟨gN, 0, none⟩) R.length R.length) (slCant tags.length x)).toArray) rfl rfl rfl (pk_size _ _ _) (pk_one _ rfl rfl) (pk_size _ _ _) ?_
      refine TW_on (sub_pick [0] (by decide) rfl) ?_
      repeat (first
        | ((first | refine TW_plain rfl rfl ?_ | refine TW_gmet rfl rfl rfl rfl ?_); first | refine QW QP ?_ | refine QW QL ?_ | refine QW QA ?_ | refine QW (rr_not rfl rfl) ?_ | refine QW QlT ?_ | refine QW QlF ?_ | refine QW QnT ?_ | refine QW QnF ?_ | refine QW QaA ?_)
        | refine TW_done ?_)
      exact E_mid (gN, x, g5) trivial (by repeat' (first | exact True.intro | refine And.intro rfl ?_)) (by rw [ofS_0]; rfl)
    · rw [show List.filter (fun m : Mk => !Nat.beq m.i 8) [mkNx R.length, mkTg tags, mkPk] = [mkNx R.length, mkTg tags] from rfl]
      simp only [mkNx, mkTg, mkPk, List.map_cons, List.map_nil]
      generalize q 3 = gN
      generalize q 6 = x
      clear q
      refine TX_tree (.calm 7 (.one 8 (.one 9 .done))) (by kernel_rfl) (by kernel_rfl) ?_
      repeat (first
        | ((first | refine TW_plain rfl rfl ?_ | refine TW_gmet rfl rfl rfl rfl ?_); first | refine QW QP ?_ | refine QW (rr_build rfl (build_pk _ _ _ _ _)) ?_ | refine QW QL ?_ | refine QW QA ?_ | refine QW (rr_not rfl rfl) ?_ | refine QW QlT ?_ | refine QW QlF ?_ | refine QW QnT ?_ | refine QW QnF ?_ | refine QW QaA ?_)
        | refine TW_done ?_)
      refine TW_one rfl ?_
      refine TL_new rfl fun g5 => ?_
      refine TW_on (sub_pick [0] (by decide) rfl) ?_
      rw [zero_pk]
      refine TW_one rfl ?_
      refine TL_storeB (i := 4) (cs' := (pkC (Vector.replicate 256 0) (.slice (some ⟨gN, 0, none⟩) R.length R.length) (slCant tags.length x)).toArray) rfl rfl rfl (pk_size _ _ _) (pk_one _ rfl rfl) (pk_size _ _ _) ?_
      refine TW_on (sub_pick [0] (by decide) rfl) ?_
      repeat (first
        | ((first | refine TW_plain rfl rfl ?_ | refine TW_gmet rfl rfl rfl rfl ?_); first | refine QW QP ?_ | refine QW QL ?_ | refine QW QA ?_ | refine QW (rr_not rfl rfl) ?_ | refine QW QlT ?_ | refine QW QlF ?_ | refine QW QnT ?_ | refine QW QnF ?_ | refine QW QaA ?_)
        | refine TW_done ?_)
      exact E_mid (gN, x, g5) trivial (by repeat' (first | exact True.intro | refine And.intro rfl ?_)) (by rw [ofS_0]; rfl)
  rintro ⟨gN, xT, g5⟩ _
  dsimp only
  generalize hvT : slCant tags.length xT = vT
  repeat (first
    | refine QV QP ?_ | refine QZ ?_ | refine qcT rfl ?_ | refine qcF rfl ?_ | refine E_blockX ?_ | refine E_blockO rfl ?_ | refine QV QL ?_
    | refine QV QA ?_ | refine QV (rr_not rfl rfl) ?_ | refine QV QlT ?_ | refine QV QlF ?_ | refine QV QnT ?_ | refine QV QnF ?_ | refine QV QaA ?_)
  refine TL_mapNew (K := colK) rfl fun g6 => ?_
  conv => arg 8; simp only [zA, zB, zC, zD, zE, zF, zG, zH, zI, rowS, ret, id_eq]
  repeat (first
    | refine QV QP ?_ | refine QZ ?_ | refine qcT rfl ?_ | refine qcF rfl ?_ | refine E_blockX ?_ | refine E_blockO rfl ?_ | refine QV QL ?_
    | refine QV QA ?_ | refine QV (rr_not rfl rfl) ?_ | refine QV QlT ?_ | refine QV QlF ?_ | refine QV QnT ?_ | refine QV QnF ?_ | refine QV QaA ?_)
  refine T_extra (nxO R.length [] fun _ => .slice none 0 0) (fun k hk => ?_) (fun w => ⟨fun i _ => World.ownsRow_nil _ _ _ _, fun i j _ _ _ k hk => ?_⟩) ?_
  · rcases hk with hk | ⟨i, _, hk⟩
    · cases hk
    · rcases hk with hk | hk <;> cases hk
  · rcases hk with hk | hk <;> cases hk
  conv => arg 7; simp only [zA, zB, zC, zD, zE, zF, zG, zH, zI, rowS, ret, id_eq]
  refine T_loop (ι := Nat × (Nat → Value)) (fun (k, _) => k ≤ 256) (fun (k, _) => [(1, .pointer (some ⟨g1, 0, none⟩)), (2, .pointer (some ⟨g2, 0, none⟩)), (5, .pointer (some ⟨g5, 0, none⟩)), (6, .map (some g6)), (30, .int .i64 (k : Int))])
    (fun (k, vs) => [blkO g1 (dfaV (.slice (some ⟨b, off, none⟩) R.length cr) (.slice (some ⟨bb, ofT, none⟩) tags.length ct)).cells 26, blkO g2 (pkC (Vector.replicate 256 0) (.slice none 0 0) (.slice none 0 0)).toArray 46, rowA 24 valV gN R.length vs, rowO 3 1 vT tags.length (tags.flatMap kit.intC), blkO g5 (pkC (ofS R k) (.slice (some ⟨gN, 0, none⟩) R.length R.length) vT).toArray 46, mapO colK g6 (mapAt (pkD R k)) (pkD R k).length, nxO R.length (pkD R k) vs]) (fun (k, _) => 256 - k) (0, fun _ => .slice none 0 0) (Nat.zero_le _) (by repeat' (first | exact True.intro | refine And.intro rfl ?_)) rfl ?_
  rintro ⟨k, vs⟩ hk
  dsimp only at hk ⊢
  by_cases c1 : k < 256
  · repeat (first
      | refine QV QP ?_ | refine QZ ?_ | refine qcT rfl ?_ | refine qcF rfl ?_ | refine E_blockX ?_ | refine E_blockO rfl ?_ | refine QV QL ?_
      | refine QV QA ?_ | refine QV (rr_not rfl rfl) ?_ | refine QV QlT ?_ | refine QV QlF ?_ | refine QV QnT ?_ | refine QV QnF ?_ | refine QV QaA ?_)
    refine TL_new rfl fun g8 => ?_
    conv => arg 8; simp only [zA, zB, zC, zD, zE, zF, zG, zH, zI, rowS, ret, id_eq]
    rw [zero_col, ← colS_0 R k]
    repeat (first
      | refine QV QP ?_ | refine QZ ?_ | refine qcT rfl ?_ | refine qcF rfl ?_ | refine E_blockX ?_ | refine E_blockO rfl ?_
      | refine QV (rr_load1 TyC.ty rfl (at_blk (i := 0) rfl rfl)) ?_ | refine QV QL ?_ | refine QV QA ?_ | refine QV (rr_not rfl rfl) ?_ | refine QV QlT ?_
      | refine QV QlF ?_ | refine QV QnT ?_ | refine QV QnF ?_ | refine QV QaA ?_)
    refine T_loop (ι := Nat) (fun j => j ≤ R.length) (fun j => [(1, .pointer (some ⟨g1, 0, none⟩)), (2, .pointer (some ⟨g2, 0, none⟩)), (5, .pointer (some ⟨g5, 0, none⟩)), (6, .map (some g6)), (7, .int .i64 (k : Int)), (8, .pointer (some ⟨g8, 0, none⟩)), (30, .int .i64 (k : Int)), (34, .slice (some ⟨b, off, none⟩) R.length cr), (35, .int .i64 (R.length : Int)), (36, .int .i64 (j : Int))])
      (fun j => [blkO g1 (dfaV (.slice (some ⟨b, off, none⟩) R.length cr) (.slice (some ⟨bb, ofT, none⟩) tags.length ct)).cells 26, blkO g2 (pkC (Vector.replicate 256 0) (.slice none 0 0) (.slice none 0 0)).toArray 46, rowA 24 valV gN R.length vs, rowO 3 1 vT tags.length (tags.flatMap kit.intC), blkO g5 (pkC (ofS R k) (.slice (some ⟨gN, 0, none⟩) R.length R.length) vT).toArray 46, mapO colK g6 (mapAt (pkD R k)) (pkD R k).length, nxO R.length (pkD R k) vs, blkO g8 (colC (colS R k j)).toArray 77]) (fun j => R.length - j) 0 (Nat.zero_le _) (by repeat' (first | exact True.intro | refine And.intro rfl ?_)) rfl ?_
    intro j hj
    by_cases c2 : j < R.length
    · have hatR := fun (L : List Own) => at_el (W := w) (L := L) rowC_len hr c2
      have hcell : (rowC R[j]).toArray[0 + k]? = some (.int .i16 (cellF R j k)) := by rw [Nat.zero_add, List.getElem?_toArray, rowC_get _ c1, cell_get c2 c1]
      have hset := colS_set R k j (by omega)
      generalize R[j] = r at *
      generalize cellF R j k = x at *
      repeat (first
        | refine QV QP ?_ | refine QZ ?_ | refine qcT rfl ?_ | refine qcF rfl ?_ | refine E_blockX ?_ | refine E_blockO rfl ?_
        | refine QV (rr_idxc Und.eq TyC.ty rfl rfl c2) ?_ | refine QV (rr_loadN TyC.ty rfl (rowC_len r) (hatR _)) ?_ | refine QV QL ?_ | refine QV QA ?_
        | refine QV (rr_not rfl rfl) ?_ | refine QV QlT ?_ | refine QV QlF ?_ | refine QV QnT ?_ | refine QV QnF ?_ | refine QV QaA ?_)
      refine TL_new rfl fun g10 => ?_
      conv => arg 8; simp only [zA, zB, zC, zD, zE, zF, zG, zH, zI, rowS, ret, id_eq]
      repeat (first
        | refine QV QP ?_ | refine QZ ?_ | refine qcT rfl ?_ | refine qcF rfl ?_ | refine E_blockX ?_ | refine E_blockO rfl ?_ | refine QV QL ?_
        | refine QV QA ?_ | refine QV (rr_not rfl rfl) ?_ | refine QV QlT ?_ | refine QV QlF ?_ | refine QV QnT ?_ | refine QV QnF ?_ | refine QV QaA ?_)
      refine TL_storeB (i := 8) (cs' := (rowC r).toArray) rfl rfl rfl (by rw [List.size_toArray, rowC_len]) (by simpa using row_one1 r) (by kernel_rfl) ?_
      conv => arg 8; simp only [zA, zB, zC, zD, zE, zF, zG, zH, zI, rowS, ret, id_eq]
      repeat (first
        | refine QV QP ?_ | refine QZ ?_ | refine qcT rfl ?_ | refine qcF rfl ?_ | refine E_blockX ?_ | refine E_blockO rfl ?_
        | refine QV (rr_aidx1 Und.eq TyC.ty rfl rfl c1) ?_ | refine QV (rr_load1 TyC.ty rfl (at_blk (i := 8) rfl hcell)) ?_
        | refine QV (rr_aidx1 Und.eq TyC.ty rfl rfl (by omega)) ?_ | refine QV QL ?_ | refine QV QA ?_ | refine QV (rr_not rfl rfl) ?_ | refine QV QlT ?_
        | refine QV QlF ?_ | refine QV QnT ?_ | refine QV QnF ?_ | refine QV QaA ?_)
      refine TL_storeCol (i := 7) (b := j) rfl rfl rfl (by omega) ?_
      rw [hset]
      conv => arg 8; simp only [zA, zB, zC, zD, zE, zF, zG, zH, zI, rowS, ret, id_eq]
      repeat (first
        | refine QV QP ?_ | refine QZ ?_ | refine qcT rfl ?_ | refine qcF rfl ?_ | refine E_blockX ?_ | refine E_blockO rfl ?_ | refine QV QL ?_
        | refine QV QA ?_ | refine QV (rr_not rfl rfl) ?_ | refine QV QlT ?_ | refine QV QlF ?_ | refine QV QnT ?_ | refine QV QnF ?_ | refine QV QaA ?_)
      refine E_pick [0, 1, 2, 3, 4, 5, 6, 7] (by decide) rfl ?_
      exact E_round (j + 1) (by omega) (by show R.length - (j + 1) < R.length - j; omega) (by repeat' (first | exact True.intro | refine And.intro rfl ?_)) rfl
    · obtain rfl : j = R.length := by omega
      rw [show colS R k R.length = colF R k from rfl]
      have hok := colF_ok hrng c1
      have hnk := pkN_at (R := R) c1
      have hn256 := pkN_256 R c1
      have hofs := ofS_set R k c1
      have hdl := pkD_len R k
      have hzero : ∀ w : World, (zeroValue 3).run Tryd.prog w = .ok (.int .i64 0) w := zeroI
      by_cases c2 : colF R k ∈ pkD R k
      · have hD := pkD_old c2
        rw [if_pos c2] at hnk
        generalize colF R k = col at *
        repeat (first
          | refine QV QP ?_ | refine QZ ?_ | refine qcT rfl ?_ | refine qcF rfl ?_ | refine E_blockX ?_ | refine E_blockO rfl ?_
          | refine QV (rr_loadB (i := 7) TyC.ty rfl rfl (by rw [List.size_toArray, colC_len])) ?_
          | refine QV (rr_lookNumS (K := colK) (x := col) Und.eq hzero (i := 5) rfl rfl rfl hok c2) ?_ | refine QV QL ?_ | refine QV QA ?_
          | refine QV (rr_not rfl rfl) ?_ | refine QV QlT ?_ | refine QV QlF ?_ | refine QV QnT ?_ | refine QV QnF ?_ | refine QV QaA ?_)
        have hwr := wrapU8 (k := idx (pkD R k) col) (by rw [← hnk]; exact hn256)
        rw [hnk] at hofs
        clear hnk hn256 hrng
        generalize pkD R k = D at *
        repeat (first
          | refine QV QP ?_ | refine QZ ?_ | refine qcT rfl ?_ | refine qcF rfl ?_ | refine E_blockX ?_ | refine E_blockO rfl ?_
          | refine QV (rr_conv Und.eq Und.eq rfl hwr) ?_ | refine QV (rr_aidx1 Und.eq TyC.ty rfl rfl c1) ?_ | refine QV QL ?_ | refine QV QA ?_
          | refine QV (rr_not rfl rfl) ?_ | refine QV QlT ?_ | refine QV QlF ?_ | refine QV QnT ?_ | refine QV QnF ?_ | refine QV QaA ?_)
        refine TL_storeOf (i := 4) (b := k) rfl rfl rfl c1 ?_
        rw [hofs]
        conv => arg 8; simp only [zA, zB, zC, zD, zE, zF, zG, zH, zI, rowS, ret, id_eq]
        repeat (first
          | refine QV QP ?_ | refine QZ ?_ | refine qcT rfl ?_ | refine qcF rfl ?_ | refine E_blockX ?_ | refine E_blockO rfl ?_ | refine QV QL ?_
          | refine QV QA ?_ | refine QV (rr_not rfl rfl) ?_ | refine QV QlT ?_ | refine QV QlF ?_ | refine QV QnT ?_ | refine QV QnF ?_ | refine QV QaA ?_)
        refine E_pick [0, 1, 2, 3, 4, 5, 6] (by decide) rfl ?_
        exact E_round (k + 1, vs) (by show k + 1 ≤ 256; omega) (by show 256 - (k + 1) < 256 - k; omega) (by repeat' (first | exact True.intro | refine And.intro rfl ?_)) (by dsimp only; rw [hD]; rfl)
      · have hD := pkD_new c2
        rw [if_neg c2] at hnk
        have hcg := fun i hi => colF_get R k i hi hle
        have hwr := wrapU8 (k := (pkD R k).length) (by omega)
        rw [hnk] at hofs
        clear hnk hn256
        generalize colF R k = col at *
        generalize hDk : pkD R k = D at *
        repeat (first
          | refine QV QP ?_ | refine QZ ?_ | refine qcT rfl ?_ | refine qcF rfl ?_ | refine E_blockX ?_ | refine E_blockO rfl ?_
          | refine QV (rr_loadB (i := 7) TyC.ty rfl rfl (by rw [List.size_toArray, colC_len])) ?_
          | refine QV (rr_lookNumN (K := colK) (x := col) Und.eq hzero (i := 5) rfl rfl rfl hok c2) ?_ | refine QV (rr_maplen colK Und.eq (i := 5) rfl rfl) ?_
          | refine QV QL ?_ | refine QV QA ?_ | refine QV (rr_not rfl rfl) ?_ | refine QV QlT ?_ | refine QV QlF ?_ | refine QV QnT ?_ | refine QV QnF ?_
          | refine QV QaA ?_)
        refine TL_mapNum (K := colK) (i := 5) (x := col) Und.eq rfl rfl rfl rfl hok c2 (by omega) ?_
        conv => arg 8; simp only [zA, zB, zC, zD, zE, zF, zG, zH, zI, rowS, ret, id_eq]
        repeat (first
          | refine QV QP ?_ | refine QZ ?_ | refine qcT rfl ?_ | refine qcF rfl ?_ | refine E_blockX ?_ | refine E_blockO rfl ?_
          | refine QV (rr_load1 TyC.ty rfl (at_blk (i := 0) rfl rfl)) ?_ | refine QV QL ?_ | refine QV QA ?_ | refine QV (rr_not rfl rfl) ?_ | refine QV QlT ?_
          | refine QV QlF ?_ | refine QV QnT ?_ | refine QV QnF ?_ | refine QV QaA ?_)
        refine T_pick [0, 1, 2, 3, 4, 5, 6] (by decide) rfl ?_
        rw [← nxM_0 R.length D col vs]
        refine T_loop (ι := Nat × (Nat → Value)) (fun (j, _) => j ≤ R.length) (fun (j, _) => [(1, .pointer (some ⟨g1, 0, none⟩)), (2, .pointer (some ⟨g2, 0, none⟩)), (5, .pointer (some ⟨g5, 0, none⟩)), (6, .map (some g6)), (7, .int .i64 (k : Int)), (11, .int .i64 (D.length : Int)), (30, .int .i64 (k : Int)), (61, .slice (some ⟨b, off, none⟩) R.length cr), (62, .int .i64 (R.length : Int)), (63, .int .i64 (j : Int))])
          (fun (j, vs) => [blkO g1 (dfaV (.slice (some ⟨b, off, none⟩) R.length cr) (.slice (some ⟨bb, ofT, none⟩) tags.length ct)).cells 26, blkO g2 (pkC (Vector.replicate 256 0) (.slice none 0 0) (.slice none 0 0)).toArray 46, rowA 24 valV gN R.length vs, rowO 3 1 vT tags.length (tags.flatMap kit.intC), blkO g5 (pkC (ofS R k) (.slice (some ⟨gN, 0, none⟩) R.length R.length) vT).toArray 46, mapO colK g6 (mapAt (D ++ [col])) (D ++ [col]).length, nxM R.length D col j vs]) (fun (j, _) => R.length - j) (0, vs) (Nat.zero_le _) (by repeat' (first | exact True.intro | refine And.intro rfl ?_)) rfl ?_
        rintro ⟨j, vs⟩ hj
        dsimp only at hj ⊢
        by_cases c3 : j < R.length
        · have hatR := fun (L : List Own) => at_el (W := w) (L := L) rowC_len hr c3
          have hcell : (rowC R[j]).toArray[0 + k]? = some (.int .i16 (cellF R j k)) := by rw [Nat.zero_add, List.getElem?_toArray, rowC_get _ c1, cell_get c3 c1]
          have hx := hrng R[j] (List.getElem_mem c3) (cellF R j k) (by rw [cell_get c3 c1, ← Vector.getElem_toList (h := by simpa using c1)]; exact List.getElem_mem _)
          have hcj := hcg j c3
          clear hcg
          generalize R[j] = r at *
          generalize cellF R j k = x at *
          repeat (first
            | refine QV QP ?_ | refine QZ ?_ | refine qcT rfl ?_ | refine qcF rfl ?_ | refine E_blockX ?_ | refine E_blockO rfl ?_
            | refine QV (rr_idxc Und.eq TyC.ty rfl rfl c3) ?_ | refine QV (rr_loadN TyC.ty rfl (rowC_len r) (hatR _)) ?_ | refine QV QL ?_ | refine QV QA ?_
            | refine QV (rr_not rfl rfl) ?_ | refine QV QlT ?_ | refine QV QlF ?_ | refine QV QnT ?_ | refine QV QnF ?_ | refine QV QaA ?_)
          refine TL_new rfl fun g14 => ?_
          conv => arg 8; simp only [zA, zB, zC, zD, zE, zF, zG, zH, zI, rowS, ret, id_eq]
          repeat (first
            | refine QV QP ?_ | refine QZ ?_ | refine qcT rfl ?_ | refine qcF rfl ?_ | refine E_blockX ?_ | refine E_blockO rfl ?_ | refine QV QL ?_
            | refine QV QA ?_ | refine QV (rr_not rfl rfl) ?_ | refine QV QlT ?_ | refine QV QlF ?_ | refine QV QnT ?_ | refine QV QnF ?_ | refine QV QaA ?_)
          refine TL_storeB (i := 7) (cs' := (rowC r).toArray) rfl rfl rfl (by rw [List.size_toArray, rowC_len]) (by simpa using row_one1 r) (by kernel_rfl) ?_
          conv => arg 8; simp only [zA, zB, zC, zD, zE, zF, zG, zH, zI, rowS, ret, id_eq]
          repeat (first
            | refine QV QP ?_ | refine QZ ?_ | refine qcT rfl ?_ | refine qcF rfl ?_ | refine E_blockX ?_ | refine E_blockO rfl ?_ | refine QV QL ?_
            | refine QV QA ?_ | refine QV (rr_not rfl rfl) ?_ | refine QV QlT ?_ | refine QV QlF ?_ | refine QV QnT ?_ | refine QV QnF ?_ | refine QV QaA ?_)
          unfold nxM
          refine T_take (q := 6) j rfl c3 ?_
          rw [if_neg (Nat.lt_irrefl j)]
          conv => arg 7; simp only [zA, zB, zC, zD, zE, zF, zG, zH, zI, rowS, ret, id_eq]
          (repeat refine T_seq ?_)
          refine T_ord ([blkO g1 (dfaV (.slice (some ⟨b, off, none⟩) R.length cr) (.slice (some ⟨bb, ofT, none⟩) tags.length ct)).cells 26, blkO g5 (pkC (ofS R k) (.slice (some ⟨gN, 0, none⟩) R.length R.length) vT).toArray 46, blkO g14 (rowC r).toArray 73]) (.calm 0 (.calm 1 (.calm 2 (.calm 3 (.calm 4 (.calm 5 (.calm 6 (.calm 8 (.calm 9 (.calm 10 (.calm 11 (.two 7 (.one 12 (.one 13 (.calm 14 (.one 15 (.done))))) 12 (.one 7 (.one 13 (.calm 14 (.one 15 (.done))))))))))))))))) (sub_pick [0, 4, 7] (by decide) rfl) (by kernel_rfl) (by kernel_rfl) (by intro c a d v w h; cases d <;> exact h) ?_
          repeat (first
            | ((first | refine TW_plain rfl rfl ?_ | refine TW_gmet rfl rfl rfl rfl ?_); first | refine QW QP ?_ | refine QW (rr_load1 TyC.ty rfl (at_blk (i := 1) rfl (pk_next _ _ _))) ?_ | refine QW (rr_idx1 (j := j) Und.eq TyC.ty rfl rfl c3) ?_ | refine QW (rr_aidx1 Und.eq TyC.ty rfl rfl c1) ?_ | refine QW (rr_load1 TyC.ty rfl (at_blk (i := 2) rfl hcell)) ?_ | refine QW (rr_conv Und.eq Und.eq rfl (wrap_in (by omega) (by omega))) ?_ | refine QW QL ?_ | refine QW QA ?_ | refine QW (rr_not rfl rfl) ?_ | refine QW QlT ?_ | refine QW QlF ?_ | refine QW QnT ?_ | refine QW QnF ?_ | refine QW QaA ?_)
            | refine TW_done ?_)
          have hnj : nxL (D ++ [col]) j = nxL D j ++ [x] := by unfold nxL; rw [List.map_append, List.map_singleton, hcj]
          have hst : ∀ v2 : Value, ∀ i, i < R.length → (fun i => if i = j then v2 else vs i) i = if i = j then v2 else vs i := fun _ _ _ => rfl
          refine TW_two rfl rfl ?_ ?_
          · refine TL_val (rr_load1 TyC.ty rfl (at_rowA (i := 2) rfl c3)) rfl rfl rfl (TW_on (sub_pick [0, 4, 7] (by decide) rfl) ?_)
            refine TW_one rfl (TL_one rfl rfl rfl rfl rfl fun g80 => TW_on (sub_pick [0, 4, 7] (by decide) rfl) ?_)
            refine TW_one rfl (TL_app11 (i := 8) (q := 9) rfl rfl rfl rfl rfl rfl (by omega) (by omega) rfl fun v2 => TW_on (sub_pick [0, 4, 7] (by decide) rfl) ?_)
            repeat (first
              | ((first | refine TW_plain rfl rfl ?_ | refine TW_gmet rfl rfl rfl rfl ?_); first | refine QW QP ?_ | refine QW (rr_idx1 (j := j) Und.eq TyC.ty rfl rfl c3) ?_ | refine QW QL ?_ | refine QW QA ?_ | refine QW (rr_not rfl rfl) ?_ | refine QW QlT ?_ | refine QW QlF ?_ | refine QW QnT ?_ | refine QW QnF ?_ | refine QW QaA ?_)
              | refine TW_done ?_)
            refine TW_one rfl (TL_slv (i := 8) rfl fun hc1 ho1 => TL_storeA (i := 2) (val := valV) (off := j) (v := v2) (fun i => if i = j then v2 else vs i) TyC.ty rfl rfl rfl hc1 ho1 c3 (hst v2) (TW_on (sub_pick [0, 4, 7] (by decide) rfl) ?_))
            repeat (first
              | ((first | refine TW_plain rfl rfl ?_ | refine TW_gmet rfl rfl rfl rfl ?_); first | refine QW QP ?_ | refine QW QL ?_ | refine QW QA ?_ | refine QW (rr_not rfl rfl) ?_ | refine QW QlT ?_ | refine QW QlF ?_ | refine QW QnT ?_ | refine QW QnF ?_ | refine QW QaA ?_)
              | refine TW_done ?_)
            repeat (first
              | refine QV QP ?_ | refine QZ ?_ | refine qcT rfl ?_ | refine qcF rfl ?_ | refine E_blockX ?_ | refine E_blockO rfl ?_ | refine QV QL ?_
              | refine QV QA ?_ | refine QV (rr_not rfl rfl) ?_ | refine QV QlT ?_ | refine QV QlF ?_ | refine QV QnT ?_ | refine QV QnF ?_ | refine QV QaA ?_)
            refine E_put j 6 8 [0, 1, 2, 3, 4, 5] (by decide) rfl rfl rfl (fun h => h.2 rfl) (D' := fun i => i < R.length) (f' := fun i => rowO 3 1 ((fun i => if i = j then v2 else vs i) i) (if i < j + 1 then D ++ [col] else D).length ((nxL (if i < j + 1 then D ++ [col] else D) i).flatMap kit.intC)) (fun q hq => (by by_cases e : q = j; exact .inr e; exact .inl ⟨hq, e⟩)) (fun q hq => ?_) ?_
            · exact nx_put hnj q
            exact E_round (j + 1, fun i => if i = j then v2 else vs i) (by show j + 1 ≤ R.length; omega) (by show R.length - (j + 1) < R.length - j; omega) (by repeat' (first | exact True.intro | refine And.intro rfl ?_)) rfl
          · refine TL_one rfl rfl rfl rfl rfl fun g80 => TW_on (sub_pick [0, 4, 7] (by decide) rfl) ?_
            refine TW_one rfl (TL_val (rr_load1 TyC.ty rfl (at_rowA (i := 2) rfl c3)) rfl rfl rfl (TW_on (sub_pick [0, 4, 7] (by decide) rfl) ?_))
            refine TW_one rfl (TL_app11 (i := 8) (q := 9) rfl rfl rfl rfl rfl rfl (by omega) (by omega) rfl fun v2 => TW_on (sub_pick [0, 4, 7] (by decide) rfl) ?_)
            repeat (first
              | ((first | refine TW_plain rfl rfl ?_ | refine TW_gmet rfl rfl rfl rfl ?_); first | refine QW QP ?_ | refine QW (rr_idx1 (j := j) Und.eq TyC.ty rfl rfl c3) ?_ | refine QW QL ?_ | refine QW QA ?_ | refine QW (rr_not rfl rfl) ?_ | refine QW QlT ?_ | refine QW QlF ?_ | refine QW QnT ?_ | refine QW QnF ?_ | refine QW QaA ?_)
              | refine TW_done ?_)
            refine TW_one rfl (TL_slv (i := 8) rfl fun hc1 ho1 => TL_storeA (i := 2) (val := valV) (off := j) (v := v2) (fun i => if i = j then v2 else vs i) TyC.ty rfl rfl rfl hc1 ho1 c3 (hst v2) (TW_on (sub_pick [0, 4, 7] (by decide) rfl) ?_))
            repeat (first
              | ((first | refine TW_plain rfl rfl ?_ | refine TW_gmet rfl rfl rfl rfl ?_); first | refine QW QP ?_ | refine QW QL ?_ | refine QW QA ?_ | refine QW (rr_not rfl rfl) ?_ | refine QW QlT ?_ | refine QW QlF ?_ | refine QW QnT ?_ | refine QW QnF ?_ | refine QW QaA ?_)
              | refine TW_done ?_)
            repeat (first
              | refine QV QP ?_ | refine QZ ?_ | refine qcT rfl ?_ | refine qcF rfl ?_ | refine E_blockX ?_ | refine E_blockO rfl ?_ | refine QV QL ?_
              | refine QV QA ?_ | refine QV (rr_not rfl rfl) ?_ | refine QV QlT ?_ | refine QV QlF ?_ | refine QV QnT ?_ | refine QV QnF ?_ | refine QV QaA ?_)
            refine E_put j 6 8 [0, 1, 2, 3, 4, 5] (by decide) rfl rfl rfl (fun h => h.2 rfl) (D' := fun i => i < R.length) (f' := fun i => rowO 3 1 ((fun i => if i = j then v2 else vs i) i) (if i < j + 1 then D ++ [col] else D).length ((nxL (if i < j + 1 then D ++ [col] else D) i).flatMap kit.intC)) (fun q hq => (by by_cases e : q = j; exact .inr e; exact .inl ⟨hq, e⟩)) (fun q hq => ?_) ?_
            · exact nx_put hnj q
            exact E_round (j + 1, fun i => if i = j then v2 else vs i) (by show j + 1 ≤ R.length; omega) (by show R.length - (j + 1) < R.length - j; omega) (by repeat' (first | exact True.intro | refine And.intro rfl ?_)) rfl
        · obtain rfl : j = R.length := by omega
          refine T_reown (nxO R.length (D ++ [col]) vs) (i := 6) rfl (fam_congr (fun _ h => h) (nxM_end _ _ _ _)) (fam_foot (fun _ h => h) (nxM_end _ _ _ _)) ?_
          conv => arg 7; simp only [zA, zB, zC, zD, zE, zF, zG, zH, zI, rowS, ret, id_eq]
          repeat (first
            | refine QV QP ?_ | refine QZ ?_ | refine qcT rfl ?_ | refine qcF rfl ?_ | refine E_blockX ?_ | refine E_blockO rfl ?_
            | refine QV (rr_conv Und.eq Und.eq rfl hwr) ?_ | refine QV (rr_aidx1 Und.eq TyC.ty rfl rfl c1) ?_ | refine QV QL ?_ | refine QV QA ?_
            | refine QV (rr_not rfl rfl) ?_ | refine QV QlT ?_ | refine QV QlF ?_ | refine QV QnT ?_ | refine QV QnF ?_ | refine QV QaA ?_)
          refine TL_storeOf (i := 4) (b := k) rfl rfl rfl c1 ?_
          rw [hofs]
          conv => arg 8; simp only [zA, zB, zC, zD, zE, zF, zG, zH, zI, rowS, ret, id_eq]
          repeat (first
            | refine QV QP ?_ | refine QZ ?_ | refine qcT rfl ?_ | refine qcF rfl ?_ | refine E_blockX ?_ | refine E_blockO rfl ?_ | refine QV QL ?_
            | refine QV QA ?_ | refine QV (rr_not rfl rfl) ?_ | refine QV QlT ?_ | refine QV QlF ?_ | refine QV QnT ?_ | refine QV QnF ?_ | refine QV QaA ?_)
          exact E_round (k + 1, vs) (by show k + 1 ≤ 256; omega) (by show 256 - (k + 1) < 256 - k; omega) (by repeat' (first | exact True.intro | refine And.intro rfl ?_)) (by dsimp only; rw [hD])
  · obtain rfl : k = 256 := by omega
    repeat (first
      | refine QV QP ?_ | refine QZ ?_ | refine qcT rfl ?_ | refine qcF rfl ?_ | refine E_blockX ?_ | refine E_blockO rfl ?_
      | refine QV (rr_loadB (i := 4) TyC.ty rfl rfl (pk_size _ _ _)) ?_ | refine QV QL ?_ | refine QV QA ?_ | refine QV (rr_not rfl rfl) ?_ | refine QV QlT ?_
      | refine QV QlF ?_ | refine QV QnT ?_ | refine QV QnF ?_ | refine QV QaA ?_)
    refine TL_slv (i := 3) rfl fun hc1 ho1 => ?_
    refine TL_storeB (i := 1) (cs' := (pkC (ofS R 256) (.slice (some ⟨gN, 0, none⟩) R.length R.length) vT).toArray) rfl rfl rfl (pk_size _ _ _) (pk_one _ rfl ho1) (pk_size _ _ _) ?_
    conv => arg 8; simp only [zA, zB, zC, zD, zE, zF, zG, zH, zI, rowS, ret, id_eq]
    repeat (first
      | refine QV QP ?_ | refine QZ ?_ | refine qcT rfl ?_ | refine qcF rfl ?_ | refine E_blockX ?_ | refine E_blockO rfl ?_ | refine QV QL ?_
      | refine QV QA ?_ | refine QV (rr_not rfl rfl) ?_ | refine QV QlT ?_ | refine QV QlF ?_ | refine QV QnT ?_ | refine QV QnF ?_ | refine QV QaA ?_)
    refine E_retc2 (i := 1) rfl rfl rfl (pk_size _ _ _) rfl fun w hm => ?_
    exact hm.meets (S := packS R tags) (gN, vs, vT) trivial [2, 6, 3] (by decide) rfl
end Go.Proofs.YtkcnoompimohnaaDoor.eng

/- SmUp -/
namespace Go.Proofs.YtkcnoompimohnaaDoor.eng
open Go.RowKit kit mix dfaL smallL
/-- a packed automaton that can be read -/
structure PkM (w : World) (vn vt : Value) (N : List (List Int)) (tags : List Int) : Prop where
  ex : ∃ (b off cap : Nat) (vs : Nat → Value), vn = .slice (some ⟨b, off, none⟩) N.length cap ∧ ∀ i (h : i < N.length), w.cell? ⟨b, off + i, none⟩ = some (vs i) ∧ Sl w (vs i) N[i].length (N[i].flatMap kit.intC)
  hT : Sl w vt tags.length (tags.flatMap kit.intC)
structure PkOk (o : Of) (N : List (List Int)) (tags : List Int) (wide : Nat) : Prop where
  pos : 0 < N.length
  le : N.length ≤ 200
  len : tags.length = N.length
  w0 : 0 < wide
  w1 : wide ≤ 256
  row : ∀ i (h : i < N.length), N[i].length = wide
  tag : ∀ i (h : i < tags.length), -1 ≤ tags[i] ∧ tags[i] < 20
  rng : ∀ i (h : i < N.length), ∀ j (h' : j < N[i].length), -1 ≤ N[i][j] ∧ N[i][j] < N.length
  of : ∀ b (h : b < 256), o[b] < wide
theorem PkM.gr {w w' : World} {vn vt : Value} {N : List (List Int)} {tags : List Int} (h : PkM w vn vt N tags) (hg : Gr w w') : PkM w' vn vt N tags := by
  obtain ⟨b, off, cap, vs, h1, h2⟩ := h.ex
  refine ⟨⟨b, off, cap, vs, h1, fun i hi => ⟨?_, (h2 i hi).2.gr hg⟩⟩, h.hT.gr hg⟩
  rw [hg.cell (World.block_lt_of_cell? w _ (h2 i hi).1)]; exact (h2 i hi).1
def ofC (o : Of) : List Value := o.toList.map fun n : Nat => .int .u8 (n : Int)
theorem ofC_len (o : Of) : (ofC o).length = 256 := by simp [ofC]
theorem ofC_get (o : Of) {b : Nat} (h : b < 256) : (ofC o).toArray[b]? = some (.int .u8 (o[b] : Int)) := by
  rw [List.getElem?_toArray]
  unfold ofC
  rw [List.getElem?_map, List.getElem?_eq_getElem (by simpa using h), Vector.getElem_toList]; rfl
theorem pk_ofC (o : Of) (vn vt : Value) {j : Nat} {v : Value} (h : (ofC o)[j]? = some v) : (pkC o vn vt).toArray[0 + j]? = some v := by
  have hj : j < (ofC o).length := (List.getElem?_eq_some_iff.1 h).1
  rw [Nat.zero_add, List.getElem?_toArray]
  show (ofC o ++ [vn, vt])[j]? = _
  rw [List.getElem?_append_left hj]; exact h
/-- what small.Unpack makes of the rows of Next -/
def unR (o : Of) (N : List (List Int)) : List Row := N.map fun l => Vector.ofFn fun b : Fin 256 => l.getD o[b] 0
theorem unR_len (o : Of) (N : List (List Int)) : (unR o N).length = N.length := List.length_map ..
end Go.Proofs.YtkcnoompimohnaaDoor.eng

/- SmCk -/
namespace Go.Proofs.YtkcnoompimohnaaDoor.eng
open Go.RowKit kit mix smallL
/-- a packed automaton that came in -/
structure PkI (w : World) (vn vt : Value) (N : List (List Int)) (tags : List Int) : Prop where
  hN : SlF (sliceS intS) (Low w) w vn N
  hT : Sl w vt tags.length (tags.flatMap kit.intC)
theorem PkI.gr {w w' : World} {vn vt : Value} {N : List (List Int)} {tags : List Int} (h : PkI w vn vt N tags) (hg : Gr w w') : PkI w' vn vt N tags := ⟨slii_gr h.hN hg, h.hT.gr hg⟩
abbrev PkGood (o : Of) (N : List (List Int)) (tags : List Int) : Prop := PkOk o N tags (N.headD []).length
open Classical in
/-- small.Check -/
noncomputable def chkP (o : Of) (N : List (List Int)) (tags : List Int) : Int := if 200 < N.length then 2 else if PkGood o N tags then 0 else 1
def rowG (N : List (List Int)) (tags : List Int) (wide i : Nat) : Prop := (N.getD i []).length = wide ∧ -1 ≤ tags.getD i 0 ∧ tags.getD i 0 < 20 ∧ ∀ x ∈ N.getD i [], -1 ≤ x ∧ x < N.length
theorem pk_rowG {o : Of} {N : List (List Int)} {tags : List Int} {wide : Nat} (h : PkOk o N tags wide) {i : Nat} (hi : i < N.length) : rowG N tags wide i := by
  have hit : i < tags.length := by rw [h.len]; exact hi
  unfold rowG
  rw [List.getD_eq_getElem?_getD, List.getElem?_eq_getElem hi, List.getD_eq_getElem?_getD, List.getElem?_eq_getElem hit]
  refine ⟨h.row i hi, (h.tag i hit).1, (h.tag i hit).2, fun x hx => ?_⟩
  obtain ⟨j, hj, rfl⟩ := List.mem_iff_getElem.1 hx
  exact h.rng i hi j hj
theorem pkOk_of {o : Of} {N : List (List Int)} {tags : List Int} {wide : Nat} (h0 : 0 < N.length) (h1 : N.length ≤ 200) (h2 : tags.length = N.length) (h3 : 0 < wide) (h4 : wide ≤ 256) (h5 : ∀ i, i < N.length → rowG N tags wide i) (h6 : ∀ b (h : b < 256), o[b] < wide) : PkOk o N tags wide := by
  have g : ∀ i (hi : i < N.length), N.getD i [] = N[i] := fun i hi => by rw [List.getD_eq_getElem?_getD, List.getElem?_eq_getElem hi]; rfl
  have gt : ∀ i (hi : i < tags.length), tags.getD i 0 = tags[i] := fun i hi => by rw [List.getD_eq_getElem?_getD, List.getElem?_eq_getElem hi]; rfl
  refine ⟨h0, h1, h2, h3, h4, fun i hi => ?_, fun i hi => ?_, fun i hi j hj => ?_, h6⟩
  · have := (h5 i hi).1; rwa [g i hi] at this
  · have := h5 i (by omega); unfold rowG at this; rw [gt i hi] at this; exact ⟨this.2.1, this.2.2.1⟩
  · have := (h5 i hi).2.2.2; rw [g i hi] at this; exact this _ (List.getElem_mem hj)
theorem chkP_2 {o : Of} {N : List (List Int)} {tags : List Int} (h : 200 < N.length) : chkP o N tags = 2 := if_pos h
theorem chkP_1 {o : Of} {N : List (List Int)} {tags : List Int} (h : ¬ 200 < N.length) (hg : ¬ PkGood o N tags) : chkP o N tags = 1 := by unfold chkP; rw [if_neg h, if_neg hg]
theorem chkP_0 {o : Of} {N : List (List Int)} {tags : List Int} (hg : PkGood o N tags) : chkP o N tags = 0 := by unfold chkP; rw [if_neg (by have := hg.le; omega), if_pos hg]
theorem chkP_good {o : Of} {N : List (List Int)} {tags : List Int} (h : chkP o N tags = 0) : PkGood o N tags := by
  unfold chkP at h
  split at h
  · cases h
  · split at h
    · assumption
    · cases h
set_option maxHeartbeats 8000000 in
theorem pkChk_calls (o : Of) (vn vt : Value) (N : List (List Int)) (tags : List Int) (w : World) (h : PkI w vn vt N tags) (ho : ∀ b (h : b < 256), o[b] < 256) :
    Calls Tryd.prog 32 #[pkV o vn vt] w (Meets (ret (.int .i64 (chkP o N tags))) w) := by
  obtain ⟨⟨an, cn, rfl, hn1, hn2, hn3⟩, at', ct, rfl, ht1, ht2, ht3⟩ := h
  unfold maxLen at hn2 ht2
  have hE1 := fun h hg => chkP_1 (o := o) (N := N) (tags := tags) h hg
  have hE2 := fun h => chkP_2 (o := o) (N := N) (tags := tags) h
  have hE0 := fun h => chkP_0 (o := o) (N := N) (tags := tags) h
  generalize chkP o N tags = e at *
  refine enter (args := [pkV o (.slice an N.length cn) (.slice at' tags.length ct)]) (n := 92) Tryd.func32 rfl rfl rfl ?_
  refine T_seq (T_region (TL_box rfl rfl rfl fun g1 => ?_))
  by_cases c1 : 200 < N.length
  · rw [hE2 c1]
    repeat (first
      | refine QV QP ?_ | refine QZ ?_ | refine qcT rfl ?_ | refine qcF rfl ?_ | refine E_blockX ?_ | refine E_blockO rfl ?_
      | refine qs rfl rfl rfl rfl rfl rfl ?_
      | ((try refine qg rfl rfl rfl ?_); first | refine QV QP ?_ | refine QV (rr_load1 TyC.ty rfl (at_blk (i := 0) rfl (pk_next _ _ _))) ?_ | refine QV (rr_gtr (b := true) rfl rfl (decide_eq_true (by omega))) ?_ | refine QV QL ?_ | refine QV QA ?_ | refine QV QlT ?_ | refine QV QlF ?_ | refine QV QgT ?_ | refine QV QgF ?_ | refine QV QhT ?_ | refine QV QhF ?_ | refine QV QeT ?_ | refine QV QeF ?_ | refine QV QnT ?_ | refine QV QnF ?_ | refine QV QaA ?_))
    exact E_ret1e rfl rfl rfl
  by_cases c2 : N.length = 0
  · rw [hE1 c1 (fun h => by have := h.pos; omega)]
    repeat (first
      | refine QV QP ?_ | refine QZ ?_ | refine qcT rfl ?_ | refine qcF rfl ?_ | refine E_blockX ?_ | refine E_blockO rfl ?_
      | refine qs rfl rfl rfl rfl rfl rfl ?_
      | ((try refine qg rfl rfl rfl ?_); first | refine QV QP ?_ | refine QV (rr_load1 TyC.ty rfl (at_blk (i := 0) rfl (pk_next _ _ _))) ?_ | refine QV (rr_gtr (b := false) rfl rfl (decide_eq_false (by omega))) ?_ | refine QV (rr_eql (b := true) rfl rfl (decide_eq_true (by omega))) ?_ | refine QV QL ?_ | refine QV QA ?_ | refine QV QlT ?_ | refine QV QlF ?_ | refine QV QgT ?_ | refine QV QgF ?_ | refine QV QhT ?_ | refine QV QhF ?_ | refine QV QeT ?_ | refine QV QeF ?_ | refine QV QnT ?_ | refine QV QnF ?_ | refine QV QaA ?_))
    exact E_ret1e rfl rfl rfl
  by_cases c3 : tags.length = N.length
  case neg =>
    rw [hE1 c1 (fun h => c3 h.len)]
    repeat (first
      | refine QV QP ?_ | refine QZ ?_ | refine qcT rfl ?_ | refine qcF rfl ?_ | refine E_blockX ?_ | refine E_blockO rfl ?_
      | refine qs rfl rfl rfl rfl rfl rfl ?_
      | ((try refine qg rfl rfl rfl ?_); first | refine QV QP ?_ | refine QV (rr_load1 TyC.ty rfl (at_blk (i := 0) rfl (pk_next _ _ _))) ?_ | refine QV (rr_load1 TyC.ty rfl (at_blk (i := 0) rfl (pk_tags _ _ _))) ?_ | refine QV (rr_gtr (b := false) rfl rfl (decide_eq_false (by omega))) ?_ | refine QV (rr_eql (b := false) rfl rfl (decide_eq_false (by omega))) ?_ | refine QV (rr_neq (b := true) rfl rfl (decide_eq_true (by omega))) ?_ | refine QV QL ?_ | refine QV QA ?_ | refine QV QlT ?_ | refine QV QlF ?_ | refine QV QgT ?_ | refine QV QgF ?_ | refine QV QhT ?_ | refine QV QhF ?_ | refine QV QeT ?_ | refine QV QeF ?_ | refine QV QnT ?_ | refine QV QnF ?_ | refine QV QaA ?_))
    exact E_ret1e rfl rfl rfl
  obtain ⟨bn, offn, rfl, _, hnd⟩ := hn3 (by omega)
  obtain ⟨bt, offt, rfl, htd⟩ := ht3 (by omega)
  clear hn3 ht3
  obtain ⟨u0, ⟨a0, c0, rfl, -⟩, hd0⟩ := fol_at hnd (show 0 < N.length by omega)
  have hat0 := fun (L : List Own) => at_rd (L := L) hd0 (j := 0) (v := .slice a0 (N[0]'(by omega)).length c0) rfl
  have hw : (N.headD []).length = (N[0]'(by omega)).length := by cases N with
    | nil => simp at c2
    | cons x r => rfl
  have hgood : PkGood o N tags ↔ PkOk o N tags (N[0]'(by omega)).length := by unfold PkGood; rw [hw]
  clear hd0 hw
  generalize (N[0]'(by omega)).length = wide at *
  repeat (first
    | refine QV QP ?_ | refine QZ ?_ | refine qcT rfl ?_ | refine qcF rfl ?_ | refine E_blockX ?_ | refine E_blockO rfl ?_
    | refine qs rfl rfl rfl rfl rfl rfl ?_
    | ((try refine qg rfl rfl rfl ?_); first | refine QV QP ?_ | refine QV (rr_load1 TyC.ty rfl (at_blk (i := 0) rfl (pk_next _ _ _))) ?_ | refine QV (rr_load1 TyC.ty rfl (at_blk (i := 0) rfl (pk_tags _ _ _))) ?_ | refine QV (rr_gtr (b := false) rfl rfl (decide_eq_false (by omega))) ?_ | refine QV (rr_eql (b := false) rfl rfl (decide_eq_false (by omega))) ?_ | refine QV (rr_neq (b := false) rfl rfl (decide_eq_false (by omega))) ?_ | refine QV (rr_idxc (j := 0) Und.eq TyC.ty rfl rfl (by omega)) ?_ | refine QV (rr_load1 (v := .slice a0 wide c0) TyC.ty rfl (hat0 _)) ?_ | refine QV QL ?_ | refine QV QA ?_ | refine QV QlT ?_ | refine QV QlF ?_ | refine QV QgT ?_ | refine QV QgF ?_ | refine QV QhT ?_ | refine QV QhF ?_ | refine QV QeT ?_ | refine QV QeF ?_ | refine QV QnT ?_ | refine QV QnF ?_ | refine QV QaA ?_))
  by_cases c4 : wide = 0
  · rw [hE1 c1 (fun h => by have := (hgood.1 h).w0; omega)]
    repeat (first
      | refine QV QP ?_ | refine QZ ?_ | refine qcT rfl ?_ | refine qcF rfl ?_ | refine E_blockX ?_ | refine E_blockO rfl ?_
      | refine qs rfl rfl rfl rfl rfl rfl ?_
      | ((try refine qg rfl rfl rfl ?_); first | refine QV QP ?_ | refine QV (rr_eql (b := true) rfl rfl (decide_eq_true (by omega))) ?_ | refine QV QL ?_ | refine QV QA ?_ | refine QV QlT ?_ | refine QV QlF ?_ | refine QV QgT ?_ | refine QV QgF ?_ | refine QV QhT ?_ | refine QV QhF ?_ | refine QV QeT ?_ | refine QV QeF ?_ | refine QV QnT ?_ | refine QV QnF ?_ | refine QV QaA ?_))
    exact E_ret1e rfl rfl rfl
  by_cases c5 : 256 < wide
  · rw [hE1 c1 (fun h => by have := (hgood.1 h).w1; omega)]
    repeat (first
      | refine QV QP ?_ | refine QZ ?_ | refine qcT rfl ?_ | refine qcF rfl ?_ | refine E_blockX ?_ | refine E_blockO rfl ?_
      | refine qs rfl rfl rfl rfl rfl rfl ?_
      | ((try refine qg rfl rfl rfl ?_); first | refine QV QP ?_ | refine QV (rr_eql (b := false) rfl rfl (decide_eq_false (by omega))) ?_ | refine QV (rr_gtr (b := true) rfl rfl (decide_eq_true (by omega))) ?_ | refine QV QL ?_ | refine QV QA ?_ | refine QV QlT ?_ | refine QV QlF ?_ | refine QV QgT ?_ | refine QV QgF ?_ | refine QV QhT ?_ | refine QV QhF ?_ | refine QV QeT ?_ | refine QV QeF ?_ | refine QV QnT ?_ | refine QV QnF ?_ | refine QV QaA ?_))
    exact E_ret1e rfl rfl rfl
  repeat (first
    | refine QV QP ?_ | refine QZ ?_ | refine qcT rfl ?_ | refine qcF rfl ?_ | refine E_blockX ?_ | refine E_blockO rfl ?_
    | refine qs rfl rfl rfl rfl rfl rfl ?_
    | ((try refine qg rfl rfl rfl ?_); first | refine QV QP ?_ | refine QV (rr_eql (b := false) rfl rfl (decide_eq_false (by omega))) ?_ | refine QV (rr_gtr (b := false) rfl rfl (decide_eq_false (by omega))) ?_ | refine QV QL ?_ | refine QV QA ?_ | refine QV QlT ?_ | refine QV QlF ?_ | refine QV QgT ?_ | refine QV QgF ?_ | refine QV QhT ?_ | refine QV QhF ?_ | refine QV QeT ?_ | refine QV QeF ?_ | refine QV QnT ?_ | refine QV QnF ?_ | refine QV QaA ?_))
  refine T_loop (ι := Nat) (fun i => i ≤ N.length ∧ ∀ j, j < i → rowG N tags wide j) (fun i => [(1, .pointer (some ⟨g1, 0, none⟩)), (3, .int .i64 (N.length : Int)), (4, .int .i64 (wide : Int)), (35, .int .i64 (N.length : Int)), (36, .int .i64 (i : Int))])
    (fun _ => [blkO g1 (pkC o (.slice (some ⟨bn, offn, none⟩) N.length cn) (.slice (some ⟨bt, offt, none⟩) tags.length ct)).toArray 46]) (fun i => N.length - i) 0 ⟨Nat.zero_le _, fun j h => by omega⟩ (by repeat' (first | exact True.intro | refine And.intro rfl ?_)) rfl ?_
  rintro i ⟨hi, hgi⟩
  by_cases q1 : i < N.length
  · have hit : i < tags.length := by omega
    obtain ⟨u, ⟨au, cu, rfl, hcu, hmu, hru⟩, hdu⟩ := fol_at hnd q1
    unfold maxLen at hmu
    have hatN := fun (L : List Own) => at_rd (L := L) hdu (j := 0) (v := .slice au N[i].length cu) rfl
    have hatT := fun (L : List Own) => at_el (L := L) SmIn_len htd hit 0 _ rfl
    have hG : rowG N tags wide i ↔ (N[i].length = wide ∧ -1 ≤ tags[i] ∧ tags[i] < 20 ∧ ∀ x ∈ N[i], -1 ≤ x ∧ x < N.length) := by
      unfold rowG
      rw [List.getD_eq_getElem?_getD, List.getElem?_eq_getElem q1, List.getD_eq_getElem?_getD, List.getElem?_eq_getElem hit]; rfl
    have hbad : ¬ rowG N tags wide i → e = 1 := fun hg => hE1 c1 fun h => hg (pk_rowG (hgood.1 h) q1)
    clear hdu hE1 hE2
    generalize tags[i] = tg at *
    generalize N[i] = l at *
    by_cases r1 : l.length = wide
    case neg =>
      rw [hbad (fun h => r1 (hG.1 h).1)]
      repeat (first
        | refine QV QP ?_ | refine QZ ?_ | refine qcT rfl ?_ | refine qcF rfl ?_ | refine E_blockX ?_ | refine E_blockO rfl ?_
        | refine qs rfl rfl rfl rfl rfl rfl ?_
        | ((try refine qg rfl rfl rfl ?_); first | refine QV QP ?_ | refine QV (rr_load1 TyC.ty rfl (at_blk (i := 0) rfl (pk_next _ _ _))) ?_ | refine QV (rr_load1 TyC.ty rfl (at_blk (i := 0) rfl (pk_tags _ _ _))) ?_ | refine QV (rr_idxc (j := i) Und.eq TyC.ty rfl rfl q1) ?_ | refine QV (rr_load1 (v := .slice au l.length cu) TyC.ty rfl (hatN _)) ?_ | refine QV (rr_neq (b := true) rfl rfl (decide_eq_true (by omega))) ?_ | refine QV QL ?_ | refine QV QA ?_ | refine QV QlT ?_ | refine QV QlF ?_ | refine QV QgT ?_ | refine QV QgF ?_ | refine QV QhT ?_ | refine QV QhF ?_ | refine QV QeT ?_ | refine QV QeF ?_ | refine QV QnT ?_ | refine QV QnF ?_ | refine QV QaA ?_))
      exact E_ret1e rfl rfl rfl
    by_cases r2 : tg < -1
    · rw [hbad (fun h => by have := (hG.1 h).2.1; omega)]
      repeat (first
        | refine QV QP ?_ | refine QZ ?_ | refine qcT rfl ?_ | refine qcF rfl ?_ | refine E_blockX ?_ | refine E_blockO rfl ?_
        | refine qs rfl rfl rfl rfl rfl rfl ?_
        | ((try refine qg rfl rfl rfl ?_); first | refine QV QP ?_ | refine QV (rr_load1 TyC.ty rfl (at_blk (i := 0) rfl (pk_next _ _ _))) ?_ | refine QV (rr_load1 TyC.ty rfl (at_blk (i := 0) rfl (pk_tags _ _ _))) ?_ | refine QV (rr_idxc (j := i) Und.eq TyC.ty rfl rfl q1) ?_ | refine QV (rr_load1 (v := .slice au l.length cu) TyC.ty rfl (hatN _)) ?_ | refine QV (rr_neq (b := false) rfl rfl (decide_eq_false (by omega))) ?_ | refine QV (rr_idxc (j := i) Und.eq TyC.ty rfl rfl hit) ?_ | refine QV (rr_load1 (v := .int .i64 tg) TyC.ty rfl (hatT _)) ?_ | refine QV (rr_lss (b := true) rfl rfl (decide_eq_true r2)) ?_ | refine QV QL ?_ | refine QV QA ?_ | refine QV QlT ?_ | refine QV QlF ?_ | refine QV QgT ?_ | refine QV QgF ?_ | refine QV QhT ?_ | refine QV QhF ?_ | refine QV QeT ?_ | refine QV QeF ?_ | refine QV QnT ?_ | refine QV QnF ?_ | refine QV QaA ?_))
      exact E_ret1e rfl rfl rfl
    by_cases r3 : 20 ≤ tg
    · rw [hbad (fun h => by have := (hG.1 h).2.2.1; omega)]
      repeat (first
        | refine QV QP ?_ | refine QZ ?_ | refine qcT rfl ?_ | refine qcF rfl ?_ | refine E_blockX ?_ | refine E_blockO rfl ?_
        | refine qs rfl rfl rfl rfl rfl rfl ?_
        | ((try refine qg rfl rfl rfl ?_); first | refine QV QP ?_ | refine QV (rr_load1 TyC.ty rfl (at_blk (i := 0) rfl (pk_next _ _ _))) ?_ | refine QV (rr_load1 TyC.ty rfl (at_blk (i := 0) rfl (pk_tags _ _ _))) ?_ | refine QV (rr_idxc (j := i) Und.eq TyC.ty rfl rfl q1) ?_ | refine QV (rr_load1 (v := .slice au l.length cu) TyC.ty rfl (hatN _)) ?_ | refine QV (rr_neq (b := false) rfl rfl (decide_eq_false (by omega))) ?_ | refine QV (rr_idxc (j := i) Und.eq TyC.ty rfl rfl hit) ?_ | refine QV (rr_load1 (v := .int .i64 tg) TyC.ty rfl (hatT _)) ?_ | refine QV (rr_lss (b := false) rfl rfl (decide_eq_false r2)) ?_ | refine QV (rr_geq (b := true) rfl rfl (decide_eq_true r3)) ?_ | refine QV QL ?_ | refine QV QA ?_ | refine QV QlT ?_ | refine QV QlF ?_ | refine QV QgT ?_ | refine QV QgF ?_ | refine QV QhT ?_ | refine QV QhF ?_ | refine QV QeT ?_ | refine QV QeF ?_ | refine QV QnT ?_ | refine QV QnF ?_ | refine QV QaA ?_))
      exact E_ret1e rfl rfl rfl
    repeat (first
      | refine QV QP ?_ | refine QZ ?_ | refine qcT rfl ?_ | refine qcF rfl ?_ | refine E_blockX ?_ | refine E_blockO rfl ?_
      | refine qs rfl rfl rfl rfl rfl rfl ?_
      | ((try refine qg rfl rfl rfl ?_); first | refine QV QP ?_ | refine QV (rr_load1 TyC.ty rfl (at_blk (i := 0) rfl (pk_next _ _ _))) ?_ | refine QV (rr_load1 TyC.ty rfl (at_blk (i := 0) rfl (pk_tags _ _ _))) ?_ | refine QV (rr_idxc (j := i) Und.eq TyC.ty rfl rfl q1) ?_ | refine QV (rr_load1 (v := .slice au l.length cu) TyC.ty rfl (hatN _)) ?_ | refine QV (rr_neq (b := false) rfl rfl (decide_eq_false (by omega))) ?_ | refine QV (rr_idxc (j := i) Und.eq TyC.ty rfl rfl hit) ?_ | refine QV (rr_load1 (v := .int .i64 tg) TyC.ty rfl (hatT _)) ?_ | refine QV (rr_lss (b := false) rfl rfl (decide_eq_false r2)) ?_ | refine QV (rr_geq (b := false) rfl rfl (decide_eq_false r3)) ?_ | refine QV QL ?_ | refine QV QA ?_ | refine QV QlT ?_ | refine QV QlF ?_ | refine QV QgT ?_ | refine QV QgF ?_ | refine QV QhT ?_ | refine QV QhF ?_ | refine QV QeT ?_ | refine QV QeF ?_ | refine QV QnT ?_ | refine QV QnF ?_ | refine QV QaA ?_))
    refine T_loop (ι := Nat) (fun j => j ≤ l.length ∧ ∀ x ∈ l.take j, -1 ≤ x ∧ x < N.length) (fun j => [(1, .pointer (some ⟨g1, 0, none⟩)), (3, .int .i64 (N.length : Int)), (4, .int .i64 (wide : Int)), (35, .int .i64 (N.length : Int)), (36, .int .i64 (i : Int)), (67, .slice au l.length cu), (68, .int .i64 (l.length : Int)), (69, .int .i64 (j : Int))])
      (fun _ => [blkO g1 (pkC o (.slice (some ⟨bn, offn, none⟩) N.length cn) (.slice (some ⟨bt, offt, none⟩) tags.length ct)).toArray 46]) (fun j => l.length - j) 0 ⟨Nat.zero_le _, fun x h => by simp at h⟩ (by repeat' (first | exact True.intro | refine And.intro rfl ?_)) rfl ?_
    rintro j ⟨hj, hgj⟩
    by_cases s1 : j < l.length
    · obtain ⟨bu, offu, rfl, hrd⟩ := hru (by omega)
      have hatU := fun (L : List Own) => at_el (L := L) SmIn_len hrd s1 0 _ rfl
      have hxm := List.getElem_mem s1
      have htk := List.take_succ_eq_append_getElem s1
      clear hrd
      generalize l[j] = x at *
      by_cases t1 : x < -1
      · rw [hbad (fun h => by have := ((hG.1 h).2.2.2 x hxm).1; omega)]
        repeat (first
          | refine QV QP ?_ | refine QZ ?_ | refine qcT rfl ?_ | refine qcF rfl ?_ | refine E_blockX ?_ | refine E_blockO rfl ?_
          | refine qs rfl rfl rfl rfl rfl rfl ?_
          | ((try refine qg rfl rfl rfl ?_); first | refine QV QP ?_ | refine QV (rr_idxc (j := j) Und.eq TyC.ty rfl rfl s1) ?_ | refine QV (rr_load1 (v := .int .i64 x) TyC.ty rfl (hatU _)) ?_ | refine QV (rr_lss (b := true) rfl rfl (decide_eq_true t1)) ?_ | refine QV QL ?_ | refine QV QA ?_ | refine QV QlT ?_ | refine QV QlF ?_ | refine QV QgT ?_ | refine QV QgF ?_ | refine QV QhT ?_ | refine QV QhF ?_ | refine QV QeT ?_ | refine QV QeF ?_ | refine QV QnT ?_ | refine QV QnF ?_ | refine QV QaA ?_))
        exact E_ret1e rfl rfl rfl
      by_cases t2 : (N.length : Int) ≤ x
      · rw [hbad (fun h => by have := ((hG.1 h).2.2.2 x hxm).2; omega)]
        repeat (first
          | refine QV QP ?_ | refine QZ ?_ | refine qcT rfl ?_ | refine qcF rfl ?_ | refine E_blockX ?_ | refine E_blockO rfl ?_
          | refine qs rfl rfl rfl rfl rfl rfl ?_
          | ((try refine qg rfl rfl rfl ?_); first | refine QV QP ?_ | refine QV (rr_idxc (j := j) Und.eq TyC.ty rfl rfl s1) ?_ | refine QV (rr_load1 (v := .int .i64 x) TyC.ty rfl (hatU _)) ?_ | refine QV (rr_lss (b := false) rfl rfl (decide_eq_false t1)) ?_ | refine QV (rr_geq (b := true) rfl rfl (decide_eq_true t2)) ?_ | refine QV QL ?_ | refine QV QA ?_ | refine QV QlT ?_ | refine QV QlF ?_ | refine QV QgT ?_ | refine QV QgF ?_ | refine QV QhT ?_ | refine QV QhF ?_ | refine QV QeT ?_ | refine QV QeF ?_ | refine QV QnT ?_ | refine QV QnF ?_ | refine QV QaA ?_))
        exact E_ret1e rfl rfl rfl
      repeat (first
        | refine QV QP ?_ | refine QZ ?_ | refine qcT rfl ?_ | refine qcF rfl ?_ | refine E_blockX ?_ | refine E_blockO rfl ?_
        | refine qs rfl rfl rfl rfl rfl rfl ?_
        | ((try refine qg rfl rfl rfl ?_); first | refine QV QP ?_ | refine QV (rr_idxc (j := j) Und.eq TyC.ty rfl rfl s1) ?_ | refine QV (rr_load1 (v := .int .i64 x) TyC.ty rfl (hatU _)) ?_ | refine QV (rr_lss (b := false) rfl rfl (decide_eq_false t1)) ?_ | refine QV (rr_geq (b := false) rfl rfl (decide_eq_false t2)) ?_ | refine QV QL ?_ | refine QV QA ?_ | refine QV QlT ?_ | refine QV QlF ?_ | refine QV QgT ?_ | refine QV QgF ?_ | refine QV QhT ?_ | refine QV QhF ?_ | refine QV QeT ?_ | refine QV QeF ?_ | refine QV QnT ?_ | refine QV QnF ?_ | refine QV QaA ?_))
      exact E_round (j + 1) ⟨by omega, fun y hy => by
        rw [htk, List.mem_append, List.mem_singleton] at hy
        rcases hy with hy | rfl
        · exact hgj y hy
        · omega⟩ (by show l.length - (j + 1) < l.length - j; omega) (by repeat' (first | exact True.intro | refine And.intro rfl ?_)) rfl
    · rw [List.take_of_length_le (by omega)] at hgj
      repeat (first
        | refine QV QP ?_ | refine QZ ?_ | refine qcT rfl ?_ | refine qcF rfl ?_ | refine E_blockX ?_ | refine E_blockO rfl ?_
        | refine qs rfl rfl rfl rfl rfl rfl ?_
        | ((try refine qg rfl rfl rfl ?_); first | refine QV QP ?_ | refine QV QL ?_ | refine QV QA ?_ | refine QV QlT ?_ | refine QV QlF ?_ | refine QV QgT ?_ | refine QV QgF ?_ | refine QV QhT ?_ | refine QV QhF ?_ | refine QV QeT ?_ | refine QV QeF ?_ | refine QV QnT ?_ | refine QV QnF ?_ | refine QV QaA ?_))
      exact E_round (i + 1) ⟨by omega, fun j hj2 => by
        by_cases e : j = i
        · subst e; exact hG.2 ⟨r1, by omega, by omega, hgj⟩
        · exact hgi j (by omega)⟩ (by show N.length - (i + 1) < N.length - i; omega) (by repeat' (first | exact True.intro | refine And.intro rfl ?_)) rfl
  · repeat (first
      | refine QV QP ?_ | refine QZ ?_ | refine qcT rfl ?_ | refine qcF rfl ?_ | refine E_blockX ?_ | refine E_blockO rfl ?_
      | refine qs rfl rfl rfl rfl rfl rfl ?_
      | ((try refine qg rfl rfl rfl ?_); first | refine QV QP ?_ | refine QV (rr_loadN (cs := ofC o) TyC.ty rfl (ofC_len o) (fun j v hj => at_blk (i := 0) rfl (pk_ofC _ _ _ hj))) ?_ | refine QV QL ?_ | refine QV QA ?_ | refine QV QlT ?_ | refine QV QlF ?_ | refine QV QgT ?_ | refine QV QgF ?_ | refine QV QhT ?_ | refine QV QhF ?_ | refine QV QeT ?_ | refine QV QeF ?_ | refine QV QnT ?_ | refine QV QnF ?_ | refine QV QaA ?_))
    refine T_loop (ι := Nat) (fun j => j ≤ 256 ∧ ∀ b (h : b < 256), b < j → o[b] < wide) (fun j => [(4, .int .i64 (wide : Int)), (83, .agg (ofC o).toArray), (84, .int .i64 (j : Int))]) (fun _ => [blkO g1 (pkC o (.slice (some ⟨bn, offn, none⟩) N.length cn) (.slice (some ⟨bt, offt, none⟩) tags.length ct)).toArray 46]) (fun j => 256 - j) 0 ⟨Nat.zero_le _, fun b _ h => by omega⟩ (by repeat' (first | exact True.intro | refine And.intro rfl ?_)) rfl ?_
    rintro j ⟨hj, hoj⟩
    by_cases s1 : j < 256
    · have hcell := ofC_get o s1
      have hz := ho j s1
      have hbad : ¬ o[j] < wide → e = 1 := fun hg => hE1 c1 fun h => hg ((hgood.1 h).of j s1)
      have hnx : o[j] < wide → ∀ b (h : b < 256), b < j + 1 → o[b] < wide := fun hw b h hb => by
        by_cases e : b = j
        · subst e; exact hw
        · exact hoj b h (by omega)
      clear hE1 hE2
      generalize o[j] = z at *
      by_cases t1 : z < wide
      · repeat (first
          | refine QV QP ?_ | refine QZ ?_ | refine qcT rfl ?_ | refine qcF rfl ?_ | refine E_blockX ?_ | refine E_blockO rfl ?_
          | refine qs rfl rfl rfl rfl rfl rfl ?_
          | ((try refine qg rfl rfl rfl ?_); first | refine QV QP ?_ | refine QV (rr_arridx Und.eq TyC.ty rfl rfl s1 hcell) ?_ | refine QV (rr_conv Und.eq Und.eq rfl (wrap_in (by omega) (by omega))) ?_ | refine QV (rr_geq (b := false) rfl rfl (decide_eq_false (by omega))) ?_ | refine QV QL ?_ | refine QV QA ?_ | refine QV QlT ?_ | refine QV QlF ?_ | refine QV QgT ?_ | refine QV QgF ?_ | refine QV QhT ?_ | refine QV QhF ?_ | refine QV QeT ?_ | refine QV QeF ?_ | refine QV QnT ?_ | refine QV QnF ?_ | refine QV QaA ?_))
        exact E_round (j + 1) ⟨by omega, hnx t1⟩ (by show 256 - (j + 1) < 256 - j; omega) (by repeat' (first | exact True.intro | refine And.intro rfl ?_)) rfl
      · rw [hbad t1]
        repeat (first
          | refine QV QP ?_ | refine QZ ?_ | refine qcT rfl ?_ | refine qcF rfl ?_ | refine E_blockX ?_ | refine E_blockO rfl ?_
          | refine qs rfl rfl rfl rfl rfl rfl ?_
          | ((try refine qg rfl rfl rfl ?_); first | refine QV QP ?_ | refine QV (rr_arridx Und.eq TyC.ty rfl rfl s1 hcell) ?_ | refine QV (rr_conv Und.eq Und.eq rfl (wrap_in (by omega) (by omega))) ?_ | refine QV (rr_geq (b := true) rfl rfl (decide_eq_true (by omega))) ?_ | refine QV QL ?_ | refine QV QA ?_ | refine QV QlT ?_ | refine QV QlF ?_ | refine QV QgT ?_ | refine QV QgF ?_ | refine QV QhT ?_ | refine QV QhF ?_ | refine QV QeT ?_ | refine QV QeF ?_ | refine QV QnT ?_ | refine QV QnF ?_ | refine QV QaA ?_))
        exact E_ret1e rfl rfl rfl
    · rw [hE0 (hgood.2 (pkOk_of (by omega) (by omega) c3 (by omega) (by omega) (fun i h => hgi i (by omega)) fun b h => hoj b h (by omega)))]
      repeat (first
        | refine QV QP ?_ | refine QZ ?_ | refine qcT rfl ?_ | refine qcF rfl ?_ | refine E_blockX ?_ | refine E_blockO rfl ?_
        | refine qs rfl rfl rfl rfl rfl rfl ?_
        | ((try refine qg rfl rfl rfl ?_); first | refine QV QP ?_ | refine QV QL ?_ | refine QV QA ?_ | refine QV QlT ?_ | refine QV QlF ?_ | refine QV QgT ?_ | refine QV QgF ?_ | refine QV QhT ?_ | refine QV QhF ?_ | refine QV QeT ?_ | refine QV QeF ?_ | refine QV QnT ?_ | refine QV QnF ?_ | refine QV QaA ?_))
      exact E_ret1e rfl rfl rfl
end Go.Proofs.YtkcnoompimohnaaDoor.eng

/- LexL -/
namespace Go.Proofs.YtkcnoompimohnaaDoor.lexL
open Go.RowKit kit mix eng smallL
/-- the next state -/
def nxP (o : Of) (N : List (List Int)) (now : Int) (b : UInt8) : Int := (N.getD now.toNat []).getD (o.toList.getD b.toNat 0) 0
/-- the longest token from a place on: its rule, and where it has ended (0: there is none) -/
def oneGo (o : Of) (N : List (List Int)) (tags : List Int) : List UInt8 → Nat → Int → Int → Nat → Int × Nat
  | [], _, _, r, t => (r, t)
  | b :: s, i, now, r, t =>
    if nxP o N now b < 0 then (r, t)
    else if 0 ≤ tags.getD (nxP o N now b).toNat 0 then oneGo o N tags s (i + 1) (nxP o N now b) (tags.getD (nxP o N now b).toNat 0) (i + 1)
    else oneGo o N tags s (i + 1) (nxP o N now b) r t
def oneF (o : Of) (N : List (List Int)) (tags : List Int) (s : List UInt8) (fr : Nat) : Int × Nat := oneGo o N tags (s.drop fr) fr 0 0 0
theorem oneGo_cons (o : Of) (N : List (List Int)) (tags : List Int) (b : UInt8) (s : List UInt8) (i : Nat) (now r : Int) (t : Nat) : oneGo o N tags (b :: s) i now r t =
    if nxP o N now b < 0 then (r, t)
    else if 0 ≤ tags.getD (nxP o N now b).toNat 0 then oneGo o N tags s (i + 1) (nxP o N now b) (tags.getD (nxP o N now b).toNat 0) (i + 1)
    else oneGo o N tags s (i + 1) (nxP o N now b) r t := rfl
/-- tokens: rule, from, to -/
abbrev Tok := Int × Nat × Nat
def lexGo (o : Of) (N : List (List Int)) (tags : List Int) (s : List UInt8) : Nat → Nat → List Tok × Nat × Int
  | 0, _ => ([], 0, 0)
  | f + 1, at' => if at' < s.length then (if (oneF o N tags s at').2 = 0 then ([], at', 9) else ((((oneF o N tags s at').1, at', (oneF o N tags s at').2) :: (lexGo o N tags s f (oneF o N tags s at').2).1), (lexGo o N tags s f (oneF o N tags s at').2).2)) else ([], 0, 0)
def lexF (o : Of) (N : List (List Int)) (tags : List Int) (s : List UInt8) : List Tok × Nat × Int := lexGo o N tags s (s.length + 1) 0
theorem lexGo_succ (o : Of) (N : List (List Int)) (tags : List Int) (s : List UInt8) (f at' : Nat) : lexGo o N tags s (f + 1) at' = if at' < s.length then (if (oneF o N tags s at').2 = 0 then ([], at', 9) else ((((oneF o N tags s at').1, at', (oneF o N tags s at').2) :: (lexGo o N tags s f (oneF o N tags s at').2).1), (lexGo o N tags s f (oneF o N tags s at').2).2)) else ([], 0, 0) := rfl
/-- where a token ends -/
theorem oneGo_to (o : Of) (N : List (List Int)) (tags : List Int) : ∀ (s : List UInt8) (i : Nat) (now r : Int) (t : Nat), (oneGo o N tags s i now r t).2 = t ∨ (i < (oneGo o N tags s i now r t).2 ∧ (oneGo o N tags s i now r t).2 ≤ i + s.length)
  | [], _, _, _, _ => .inl rfl
  | b :: s, i, now, r, t => by
    rw [oneGo_cons]
    split
    · exact .inl rfl
    · split
      · rcases oneGo_to o N tags s (i + 1) (nxP o N now b) (tags.getD (nxP o N now b).toNat 0) (i + 1) with h | h
        · rw [h]; exact .inr ⟨by omega, by rw [List.length_cons]; omega⟩
        · exact .inr ⟨by omega, by rw [List.length_cons]; omega⟩
      · rcases oneGo_to o N tags s (i + 1) (nxP o N now b) r t with h | h
        · exact .inl h
        · exact .inr ⟨by omega, by rw [List.length_cons]; omega⟩
theorem oneF_to {o : Of} {N : List (List Int)} {tags : List Int} {s : List UInt8} {fr : Nat} (hf : fr ≤ s.length) : (oneF o N tags s fr).2 = 0 ∨ (fr < (oneF o N tags s fr).2 ∧ (oneF o N tags s fr).2 ≤ s.length) := by
  rcases oneGo_to o N tags (s.drop fr) fr 0 0 0 with h | h
  · exact .inl h
  · right
    rw [List.length_drop] at h
    exact ⟨h.1, by have := h.2; show (oneGo _ _ _ _ _ _ _ _).2 ≤ _; omega⟩
/-- a good one's next states -/
theorem nxP_in {o : Of} {N : List (List Int)} {tags : List Int} (h : PkGood o N tags) {q : Nat} (hq : q < N.length) (b : UInt8) :
    ∃ (h1 : q < N.length) (h2 : o[b.toNat]'b.toNat_lt < N[q].length), nxP o N (q : Int) b = N[q][o[b.toNat]'b.toNat_lt] ∧ -1 ≤ nxP o N (q : Int) b ∧ nxP o N (q : Int) b < N.length := by
  have hw : o[b.toNat]'b.toNat_lt < N[q].length := by rw [h.row q hq]; exact h.of _ _
  have e : nxP o N (q : Int) b = N[q][o[b.toNat]'b.toNat_lt] := by
    unfold nxP
    rw [Int.toNat_natCast, List.getD_eq_getElem?_getD (l := N), List.getElem?_eq_getElem hq, Option.getD_some, List.getD_eq_getElem?_getD (l := o.toList), List.getElem?_eq_getElem (by rw [Vector.length_toList]; exact b.toNat_lt), Option.getD_some, Vector.getElem_toList, List.getD_eq_getElem?_getD, List.getElem?_eq_getElem hw]; rfl
  have hr := h.rng q hq _ hw
  exact ⟨hq, hw, e, by rw [e]; exact hr.1, by rw [e]; exact hr.2⟩
end Go.Proofs.YtkcnoompimohnaaDoor.lexL

/- LexA -/
namespace Go.Proofs.YtkcnoompimohnaaDoor.eng
open Go.RowKit kit mix smallL lexL
theorem of_toB {vn vt : Value} (o : Of) (b : UInt8) : (pkC o vn vt).toArray[0 + b.toNat]? = some (.int .u8 ((o[b.toNat]'b.toNat_lt : Nat) : Int)) := by
  rw [Nat.zero_add]; exact pk_of o vn vt b.toNat_lt
set_option maxHeartbeats 4000000 in
theorem lexCheck_calls (o : Of) (vn vt : Value) (N : List (List Int)) (tags : List Int) (s : List UInt8) (w : World) (h : PkI w vn vt N tags) (ho : ∀ b (h : b < 256), o[b] < 256) (hs : s.length ≤ 9223372036854775807) :
    Calls Tryd.prog 18 #[pkV o vn vt, str s] w (Meets (ret (.int .i64 (if chkP o N tags ≠ 0 then chkP o N tags else if 2000 < s.length then 2 else 0))) w) := by
  have hck := fun w' (hg : Gr w w') => pkChk_calls o vn vt N tags w' (h.gr hg) ho
  obtain ⟨⟨an, cn, rfl, -⟩, at', ct, rfl, -⟩ := h
  generalize chkP o N tags = e at *
  refine enter (args := [pkV o (.slice an N.length cn) (.slice at' tags.length ct), str s]) (n := 14) Tryd.func18 rfl rfl rfl ?_
  refine T_seq (T_region (TL_box rfl rfl rfl fun g2 => ?_))
  conv => arg 8; simp only [zA, zB, zC, zD, zE, zF, zG, zH, zI, rowS, ret, id_eq]
  repeat (first
    | refine QV QP ?_ | refine QZ ?_ | refine qcT rfl ?_ | refine qcF rfl ?_ | refine QV (rr_loadB (i := 0) TyC.ty rfl rfl (pk_size _ _ _)) ?_
    | refine QV QS ?_ | refine QV QgT ?_ | refine QV QgF ?_ | refine QV QnT ?_ | refine QV QnF ?_)
  refine TL_call (he1 EntersC.en rfl rfl) (fun w hm => hck _ hm.below) rfl rfl rfl ?_
  intro _ _
  conv => arg 8; simp only [zA, zB, zC, zD, zE, zF, zG, zH, zI, rowS, ret, id_eq]
  by_cases c1 : e = 0
  · rw [if_neg (by simpa using c1)]
    by_cases c2 : 2000 < s.length
    · rw [if_pos c2]
      repeat (first
        | refine QV QP ?_ | refine QZ ?_ | refine qcT rfl ?_ | refine qcF rfl ?_
        | refine QV (rr_neq (b := false) rfl rfl (decide_eq_false (by simpa using c1))) ?_
        | refine QV (rr_gtr (b := true) rfl rfl (decide_eq_true (by omega))) ?_ | refine QV QS ?_ | refine QV QgT ?_ | refine QV QgF ?_ | refine QV QnT ?_
        | refine QV QnF ?_)
      exact E_ret1e rfl rfl rfl
    · rw [if_neg c2]
      repeat (first
        | refine QV QP ?_ | refine QZ ?_ | refine qcT rfl ?_ | refine qcF rfl ?_
        | refine QV (rr_neq (b := false) rfl rfl (decide_eq_false (by simpa using c1))) ?_
        | refine QV (rr_gtr (b := false) rfl rfl (decide_eq_false (by omega))) ?_ | refine QV QS ?_ | refine QV QgT ?_ | refine QV QgF ?_ | refine QV QnT ?_
        | refine QV QnF ?_)
      exact E_ret1e rfl rfl rfl
  · rw [if_pos c1]
    repeat (first
      | refine QV QP ?_ | refine QZ ?_ | refine qcT rfl ?_ | refine qcF rfl ?_ | refine QV (rr_neq (b := true) rfl rfl (decide_eq_true c1)) ?_
      | refine QV QS ?_ | refine QV QgT ?_ | refine QV QgF ?_ | refine QV QnT ?_ | refine QV QnF ?_)
    exact E_ret1e rfl rfl rfl
def tokC (t : Tok) : List Value := [.int .i64 t.1, .int .i64 (t.2.1 : Int), .int .i64 (t.2.2 : Int)]
theorem tokC_len (t : Tok) : (tokC t).length = 3 := rfl
theorem build_tokF (f : Nat) (w : World) : (Instr.build 53 #[(1, .int .i64 (f : Int))]).run Tryd.prog w = .ok (.agg (tokC (0, f, 0)).toArray) w := by
  unfold tokC; go_simp
theorem build_tok0 (w : World) : (Instr.build 53 (#[] : Array (Nat × Value))).run Tryd.prog w = .ok (.agg (tokC (0, 0, 0)).toArray) w := by kernel_rfl
/-- what one answers -/
def oneA (fr : Nat) (x : Int × Nat) : Value := if x.2 = 0 then .tuple #[.agg (tokC (0, 0, 0)).toArray, .bool false] else .tuple #[.agg (tokC (x.1, fr, x.2)).toArray, .bool true]
set_option maxHeartbeats 8000000 in
theorem lexOne_calls (o : Of) (vn vt : Value) (N : List (List Int)) (tags : List Int) (s : List UInt8) (fr : Nat) (w : World) (h : PkI w vn vt N tags) (hg : PkGood o N tags) (hs : s.length ≤ 1000000) (hf : fr ≤ s.length) :
    Calls Tryd.prog 19 #[pkV o vn vt, str s, .int .i64 (fr : Int)] w (Meets (ret (oneA fr (oneF o N tags s fr))) w) := by
  have hnx := fun {q} hq b => nxP_in hg (q := q) hq b
  have hpos := hg.pos
  have hlen := hg.len
  have htag := hg.tag
  obtain ⟨⟨an, cn, rfl, hn1, hn2, hn3⟩, at', ct, rfl, ht1, ht2, ht3⟩ := h
  unfold maxLen at hn2 ht2
  obtain ⟨bn, offn, rfl, _, hnd⟩ := hn3 (by omega)
  obtain ⟨bt, offt, rfl, htd⟩ := ht3 (by omega)
  clear hn3 ht3 hg
  have hbt := build_tokF fr
  have hb0 := build_tok0
  refine enter (args := [pkV o (.slice (some ⟨bn, offn, none⟩) N.length cn) (.slice (some ⟨bt, offt, none⟩) tags.length ct), str s, .int .i64 (fr : Int)]) (n := 55) Tryd.func19 rfl rfl rfl ?_
  refine T_seq (T_region (TL_box rfl rfl rfl fun g3 => TL_new rfl fun g6 => ?_))
  conv => arg 8; simp only [zA, zB, zC, zD, zE, zF, zG, zH, zI, rowS, ret, id_eq]
  repeat (first
    | refine QV QP ?_ | refine QZ ?_ | refine qcT rfl ?_ | refine qcF rfl ?_ | refine E_blockX ?_ | refine E_blockO rfl ?_ | refine QV (rr_build rfl hbt) ?_
    | refine QV QS ?_ | refine QV QA ?_ | refine QV QlT ?_ | refine QV QlF ?_ | refine QV QhT ?_ | refine QV QhF ?_ | refine QV QeT ?_ | refine QV QeF ?_
    | refine QV QaA ?_)
  refine TL_new rfl fun g9 => ?_
  conv => arg 8; simp only [zA, zB, zC, zD, zE, zF, zG, zH, zI, rowS, ret, id_eq]
  refine TL_storeB (i := 2) (cs' := (tokC (0, fr, 0)).toArray) rfl rfl rfl rfl rfl rfl ?_
  conv => arg 8; simp only [zA, zB, zC, zD, zE, zF, zG, zH, zI, rowS, ret, id_eq]
  repeat (first
    | refine QV QP ?_ | refine QZ ?_ | refine qcT rfl ?_ | refine qcF rfl ?_ | refine E_blockX ?_ | refine E_blockO rfl ?_ | refine QV QS ?_
    | refine QV QA ?_ | refine QV QlT ?_ | refine QV QlF ?_ | refine QV QhT ?_ | refine QV QhF ?_ | refine QV QeT ?_ | refine QV QeF ?_ | refine QV QaA ?_)
  unfold oneF
  generalize hfin : oneGo o N tags (s.drop fr) fr 0 0 0 = fin
  refine T_loop (ι := Nat × Nat × Int × Nat) (fun (i, now, r, t) => i ≤ s.length ∧ now < N.length ∧ t ≤ i ∧ oneGo o N tags (s.drop i) i (now : Int) r t = fin) (fun (i, now, _, _) => [(1, str s), (3, .pointer (some ⟨g3, 0, none⟩)), (6, .pointer (some ⟨g6, 0, none⟩)), (8, .int .i64 (now : Int)), (9, .pointer (some ⟨g9, 0, none⟩)), (10, .int .i64 (i : Int))])
    (fun (_, _, r, t) => [blkO g3 (pkC o (.slice (some ⟨bn, offn, none⟩) N.length cn) (.slice (some ⟨bt, offt, none⟩) tags.length ct)).toArray 46, blkO g6 (tokC (0, 0, 0)).toArray 53, blkO g9 (tokC (r, fr, t)).toArray 53]) (fun (i, _, _, _) => s.length - i) (fr, 0, 0, 0) ⟨hf, hpos, Nat.zero_le _, hfin⟩ (by repeat' (first | exact True.intro | refine And.intro rfl ?_)) rfl ?_
  rintro ⟨i, now, r, t⟩ ⟨i1, i2, i3, i4⟩
  dsimp only at i1 i2 i3 i4 ⊢
  by_cases c1 : i < s.length
  · rw [List.drop_eq_getElem_cons c1, oneGo_cons] at i4
    obtain ⟨_, hw, hx0, hx1, hx2⟩ := hnx i2 s[i]
    have hb : s[(i : Int).toNat]? = some s[i] := by rw [Int.toNat_natCast]; exact List.getElem?_eq_getElem c1
    have hcell := of_toB (vn := .slice (some ⟨bn, offn, none⟩) N.length cn) (vt := .slice (some ⟨bt, offt, none⟩) tags.length ct) o s[i]
    have hb8 := s[i].toNat_lt
    obtain ⟨u, ⟨au, cu, rfl, hcu, hmu, hru⟩, hdu⟩ := fol_at hnd i2
    have hatN := fun (L : List Own) => at_rd (L := L) hdu (j := 0) (v := .slice au N[now].length cu) rfl
    obtain ⟨bu, offu, rfl, hrd⟩ := hru (by omega)
    have hatU := fun (L : List Own) => at_el (L := L) SmIn_len hrd hw 0 _ rfl
    have hatU' : ∀ (L : List Own), At (w : Base) L ⟨bu, offu + o[s[i].toNat] * 1 + 0, none⟩ (.int .i64 (nxP o N (now : Int) s[i])) := fun L => by rw [hx0]; exact hatU L
    clear hdu hrd hru hatU hx0 hfin hnd
    generalize s[i] = b at *
    generalize o[b.toNat] = ob at *
    generalize nxP o N (now : Int) b = x at *
    generalize N[now].length = wd at *
    repeat (first
      | refine QV QP ?_ | refine QZ ?_ | refine qcT rfl ?_ | refine qcF rfl ?_ | refine E_blockX ?_ | refine E_blockO rfl ?_ | refine QV QS ?_
      | refine QV QA ?_ | refine QV QlT ?_ | refine QV QlF ?_ | refine QV QhT ?_ | refine QV QhF ?_ | refine QV QeT ?_ | refine QV QeF ?_ | refine QV QaA ?_)
    refine T_ord ([blkO g3 (pkC o (.slice (some ⟨bn, offn, none⟩) N.length cn) (.slice (some ⟨bt, offt, none⟩) tags.length ct)).toArray 46]) (.calm 0 (.calm 1 (.calm 2 (.calm 3 (.calm 4 (.calm 5 (.calm 6 (.calm 7 (.calm 8 (.calm 9 (.calm 10 (.calm 11 (.calm 12 (.calm 13 (.done))))))))))))))) (sub_pick [0] (by decide) rfl) (by kernel_rfl) (by kernel_rfl) (by intro c a d v w h; cases d <;> exact h) ?_
    repeat (first
      | ((first | refine TW_plain rfl rfl ?_ | refine TW_gmet rfl rfl rfl rfl ?_); first | refine QW QP ?_ | refine QW (rr_load1 TyC.ty rfl (at_blk (i := 0) rfl (pk_next _ _ _))) ?_ | refine QW (rr_idxc (j := now) Und.eq TyC.ty rfl rfl i2) ?_ | refine QW (rr_load1 TyC.ty rfl (hatN _)) ?_ | refine QW (rr_stridx Und.eq rfl rfl (by omega) hb) ?_ | refine QW (rr_aidx1 Und.eq TyC.ty rfl rfl hb8) ?_ | refine QW (rr_load1 TyC.ty rfl (at_blk (i := 0) rfl hcell)) ?_ | refine QW (rr_idxc (j := ob) Und.eq TyC.ty rfl rfl hw) ?_ | refine QW (rr_load1 TyC.ty rfl (hatU' _)) ?_ | refine QW QS ?_ | refine QW QA ?_ | refine QW QlT ?_ | refine QW QlF ?_ | refine QW QhT ?_ | refine QW QhF ?_ | refine QW QeT ?_ | refine QW QeF ?_ | refine QW QaA ?_)
      | refine TW_done ?_)
    by_cases q1 : x < 0
    · rw [if_pos q1] at i4
      subst i4
      unfold oneA
      by_cases e1 : t = 0
      · subst e1
        rw [if_pos rfl]
        repeat (first
          | refine QV QP ?_ | refine QZ ?_ | refine qcT rfl ?_ | refine qcF rfl ?_ | refine E_blockX ?_ | refine E_blockO rfl ?_
          | refine QV (rr_lss (b := true) rfl rfl (decide_eq_true q1)) ?_
          | refine QV (rr_load1 (v := .int .i64 ((0 : Nat) : Int)) TyC.ty rfl (at_blk (i := 2) rfl rfl)) ?_
          | refine QV (rr_eql (b := true) rfl rfl (decide_eq_true (by simp))) ?_ | refine QV (rr_build rfl hb0) ?_ | refine QV QS ?_ | refine QV QA ?_
          | refine QV QlT ?_ | refine QV QlF ?_ | refine QV QhT ?_ | refine QV QhF ?_ | refine QV QeT ?_ | refine QV QeF ?_ | refine QV QaA ?_)
        refine TL_storeB (i := 1) (cs' := (tokC (0, 0, 0)).toArray) rfl rfl rfl rfl rfl rfl ?_
        conv => arg 8; simp only [zA, zB, zC, zD, zE, zF, zG, zH, zI, rowS, ret, id_eq]
        repeat (first
          | refine QV QP ?_ | refine QZ ?_ | refine qcT rfl ?_ | refine qcF rfl ?_ | refine E_blockX ?_ | refine E_blockO rfl ?_ | refine QV QS ?_
          | refine QV QA ?_ | refine QV QlT ?_ | refine QV QlF ?_ | refine QV QhT ?_ | refine QV QhF ?_ | refine QV QeT ?_ | refine QV QeF ?_ | refine QV QaA ?_)
        exact E_retc2 (i := 1) rfl rfl rfl rfl rfl fun w hm => hm.ret
      · rw [if_neg e1]
        repeat (first
          | refine QV QP ?_ | refine QZ ?_ | refine qcT rfl ?_ | refine qcF rfl ?_ | refine E_blockX ?_ | refine E_blockO rfl ?_
          | refine QV (rr_lss (b := true) rfl rfl (decide_eq_true q1)) ?_ | refine QV (rr_load1 (v := .int .i64 (t : Int)) TyC.ty rfl (at_blk (i := 2) rfl rfl)) ?_
          | refine QV (rr_eql (b := false) rfl rfl (decide_eq_false (by omega))) ?_ | refine QV (rr_loadB (i := 2) TyC.ty rfl rfl rfl) ?_ | refine QV QS ?_
          | refine QV QA ?_ | refine QV QlT ?_ | refine QV QlF ?_ | refine QV QhT ?_ | refine QV QhF ?_ | refine QV QeT ?_ | refine QV QeF ?_ | refine QV QaA ?_)
        refine TL_storeB (i := 1) (cs' := (tokC (r, fr, t)).toArray) rfl rfl rfl rfl rfl rfl ?_
        conv => arg 8; simp only [zA, zB, zC, zD, zE, zF, zG, zH, zI, rowS, ret, id_eq]
        repeat (first
          | refine QV QP ?_ | refine QZ ?_ | refine qcT rfl ?_ | refine qcF rfl ?_ | refine E_blockX ?_ | refine E_blockO rfl ?_ | refine QV QS ?_
          | refine QV QA ?_ | refine QV QlT ?_ | refine QV QlF ?_ | refine QV QhT ?_ | refine QV QhF ?_ | refine QV QeT ?_ | refine QV QeF ?_ | refine QV QaA ?_)
        exact E_retc2 (i := 1) rfl rfl rfl rfl rfl fun w hm => hm.ret
    · rw [if_neg q1] at i4
      obtain ⟨xn, rfl⟩ := Int.eq_ofNat_of_zero_le (show 0 ≤ x by omega)
      have hxt : xn < tags.length := by omega
      have hatT := fun (L : List Own) => at_el (L := L) SmIn_len htd hxt 0 _ rfl
      rw [Int.toNat_natCast, List.getD_eq_getElem?_getD (l := tags), List.getElem?_eq_getElem hxt, Option.getD_some] at i4
      generalize tags[xn] = tg at *
      have hatT' : ∀ (L : List Own), At (w : Base) L ⟨bt, offt + xn * 1 + 0, none⟩ (.int .i64 tg) := hatT
      by_cases q2 : 0 ≤ tg
      · rw [if_pos q2] at i4
        repeat (first
          | refine QV QP ?_ | refine QZ ?_ | refine qcT rfl ?_ | refine qcF rfl ?_ | refine E_blockX ?_ | refine E_blockO rfl ?_
          | refine QV (rr_lss (b := false) rfl rfl (decide_eq_false q1)) ?_ | refine QV (rr_load1 TyC.ty rfl (at_blk (i := 0) rfl (pk_tags _ _ _))) ?_
          | refine QV (rr_idxc (j := xn) Und.eq TyC.ty rfl rfl hxt) ?_ | refine QV (rr_load1 (v := .int .i64 tg) TyC.ty rfl (hatT' _)) ?_
          | refine QV (rr_geq (b := true) rfl rfl (decide_eq_true q2)) ?_
          | refine QV (rr_add64 (r := ((i + 1 : Nat) : Int)) rfl rfl (by omega) (by omega) (by omega)) ?_ | refine QV QS ?_ | refine QV QA ?_ | refine QV QlT ?_
          | refine QV QlF ?_ | refine QV QhT ?_ | refine QV QhF ?_ | refine QV QeT ?_ | refine QV QeF ?_ | refine QV QaA ?_)
        refine TL_store1 (i := 2) rfl rfl rfl rfl rfl rfl ?_
        conv => arg 8; simp only [zA, zB, zC, zD, zE, zF, zG, zH, zI, rowS, ret, id_eq]
        repeat (first
          | refine QV QP ?_ | refine QZ ?_ | refine qcT rfl ?_ | refine qcF rfl ?_ | refine E_blockX ?_ | refine E_blockO rfl ?_ | refine QV QS ?_
          | refine QV QA ?_ | refine QV QlT ?_ | refine QV QlF ?_ | refine QV QhT ?_ | refine QV QhF ?_ | refine QV QeT ?_ | refine QV QeF ?_ | refine QV QaA ?_)
        refine TL_store1 (i := 2) rfl rfl rfl rfl rfl rfl ?_
        conv => arg 8; simp only [zA, zB, zC, zD, zE, zF, zG, zH, zI, rowS, ret, id_eq]
        repeat (first
          | refine QV QP ?_ | refine QZ ?_ | refine qcT rfl ?_ | refine qcF rfl ?_ | refine E_blockX ?_ | refine E_blockO rfl ?_
          | refine QV (rr_add64 (r := ((i + 1 : Nat) : Int)) rfl rfl (by omega) (by omega) (by omega)) ?_ | refine QV QS ?_ | refine QV QA ?_ | refine QV QlT ?_
          | refine QV QlF ?_ | refine QV QhT ?_ | refine QV QhF ?_ | refine QV QeT ?_ | refine QV QeF ?_ | refine QV QaA ?_)
        exact E_round (i + 1, xn, tg, i + 1) ⟨by show i + 1 ≤ s.length; omega, by show xn < N.length; omega, Nat.le_refl _, i4⟩ (by show s.length - (i + 1) < s.length - i; omega) (by repeat' (first | exact True.intro | refine And.intro rfl ?_)) rfl
      · rw [if_neg q2] at i4
        repeat (first
          | refine QV QP ?_ | refine QZ ?_ | refine qcT rfl ?_ | refine qcF rfl ?_ | refine E_blockX ?_ | refine E_blockO rfl ?_
          | refine QV (rr_lss (b := false) rfl rfl (decide_eq_false q1)) ?_ | refine QV (rr_load1 TyC.ty rfl (at_blk (i := 0) rfl (pk_tags _ _ _))) ?_
          | refine QV (rr_idxc (j := xn) Und.eq TyC.ty rfl rfl hxt) ?_ | refine QV (rr_load1 (v := .int .i64 tg) TyC.ty rfl (hatT' _)) ?_
          | refine QV (rr_geq (b := false) rfl rfl (decide_eq_false q2)) ?_
          | refine QV (rr_add64 (r := ((i + 1 : Nat) : Int)) rfl rfl (by omega) (by omega) (by omega)) ?_ | refine QV QS ?_ | refine QV QA ?_ | refine QV QlT ?_
          | refine QV QlF ?_ | refine QV QhT ?_ | refine QV QhF ?_ | refine QV QeT ?_ | refine QV QeF ?_ | refine QV QaA ?_)
        exact E_round (i + 1, xn, r, t) ⟨by show i + 1 ≤ s.length; omega, by show xn < N.length; omega, by show t ≤ i + 1; omega, i4⟩ (by show s.length - (i + 1) < s.length - i; omega) (by repeat' (first | exact True.intro | refine And.intro rfl ?_)) rfl
  · rw [List.drop_eq_nil_of_le (by omega)] at i4
    have i4 : (r, t) = fin := i4
    subst i4
    unfold oneA
    by_cases e1 : t = 0
    · subst e1
      rw [if_pos rfl]
      repeat (first
        | refine QV QP ?_ | refine QZ ?_ | refine qcT rfl ?_ | refine qcF rfl ?_ | refine E_blockX ?_ | refine E_blockO rfl ?_
        | refine QV (rr_load1 (v := .int .i64 ((0 : Nat) : Int)) TyC.ty rfl (at_blk (i := 2) rfl rfl)) ?_
        | refine QV (rr_eql (b := true) rfl rfl (decide_eq_true (by simp))) ?_ | refine QV (rr_build rfl hb0) ?_ | refine QV QS ?_ | refine QV QA ?_
        | refine QV QlT ?_ | refine QV QlF ?_ | refine QV QhT ?_ | refine QV QhF ?_ | refine QV QeT ?_ | refine QV QeF ?_ | refine QV QaA ?_)
      refine TL_storeB (i := 1) (cs' := (tokC (0, 0, 0)).toArray) rfl rfl rfl rfl rfl rfl ?_
      conv => arg 8; simp only [zA, zB, zC, zD, zE, zF, zG, zH, zI, rowS, ret, id_eq]
      repeat (first
        | refine QV QP ?_ | refine QZ ?_ | refine qcT rfl ?_ | refine qcF rfl ?_ | refine E_blockX ?_ | refine E_blockO rfl ?_ | refine QV QS ?_
        | refine QV QA ?_ | refine QV QlT ?_ | refine QV QlF ?_ | refine QV QhT ?_ | refine QV QhF ?_ | refine QV QeT ?_ | refine QV QeF ?_ | refine QV QaA ?_)
      exact E_retc2 (i := 1) rfl rfl rfl rfl rfl fun w hm => hm.ret
    · rw [if_neg e1]
      repeat (first
        | refine QV QP ?_ | refine QZ ?_ | refine qcT rfl ?_ | refine qcF rfl ?_ | refine E_blockX ?_ | refine E_blockO rfl ?_
        | refine QV (rr_load1 (v := .int .i64 (t : Int)) TyC.ty rfl (at_blk (i := 2) rfl rfl)) ?_
        | refine QV (rr_eql (b := false) rfl rfl (decide_eq_false (by omega))) ?_ | refine QV (rr_loadB (i := 2) TyC.ty rfl rfl rfl) ?_ | refine QV QS ?_
        | refine QV QA ?_ | refine QV QlT ?_ | refine QV QlF ?_ | refine QV QhT ?_ | refine QV QhF ?_ | refine QV QeT ?_ | refine QV QeF ?_ | refine QV QaA ?_)
      refine TL_storeB (i := 1) (cs' := (tokC (r, fr, t)).toArray) rfl rfl rfl rfl rfl rfl ?_
      conv => arg 8; simp only [zA, zB, zC, zD, zE, zF, zG, zH, zI, rowS, ret, id_eq]
      repeat (first
        | refine QV QP ?_ | refine QZ ?_ | refine qcT rfl ?_ | refine qcF rfl ?_ | refine E_blockX ?_ | refine E_blockO rfl ?_ | refine QV QS ?_
        | refine QV QA ?_ | refine QV QlT ?_ | refine QV QlF ?_ | refine QV QhT ?_ | refine QV QhF ?_ | refine QV QeT ?_ | refine QV QeF ?_ | refine QV QaA ?_)
      exact E_retc2 (i := 1) rfl rfl rfl rfl rfl fun w hm => hm.ret
end Go.Proofs.YtkcnoompimohnaaDoor.eng

/- LexB -/
namespace Go.Proofs.YtkcnoompimohnaaDoor.eng
open Go.RowKit kit mix smallL lexL
noncomputable def lexA (o : Of) (N : List (List Int)) (tags : List Int) (s : List UInt8) : List Tok × Nat × Int := if chkP o N tags ≠ 0 then ([], 0, chkP o N tags) else if 2000 < s.length then ([], 0, 2) else lexF o N tags s
theorem lexA_ok {o : Of} {N : List (List Int)} {tags : List Int} {s : List UInt8} (h : chkP o N tags = 0) (hs : s.length ≤ 2000) : lexA o N tags s = lexF o N tags s := by
  unfold lexA; rw [if_neg (by simpa using h), if_neg (by omega)]
abbrev toksO (v : Value) (l : List Tok) : Own := rowO 53 3 v l.length (l.flatMap tokC)
def lexS (R : List Tok × Nat × Int) : Spec Value := ⟨fun _ => True, fun v => .tuple #[v, .int .i64 (R.2.1 : Int), .int .i64 R.2.2], fun v => [toksO v R.1]⟩
theorem toks_snoc (v : Value) (l : List Tok) (x : Tok) : toksO v (l ++ [x]) = rowO 53 3 v (l.length + 1) (l.flatMap tokC ++ tokC x) := by
  unfold toksO; rw [List.length_append, List.flatMap_append]; simp
theorem tok_one (t : Tok) : ∀ u ∈ tokC t, u.oneCell' = true := by
  intro u h
  simp only [tokC, List.mem_cons, List.not_mem_nil, or_false] at h
  rcases h with rfl | rfl | rfl <;> rfl
set_option maxHeartbeats 8000000 in
theorem lex_calls (o : Of) (vn vt : Value) (N : List (List Int)) (tags : List Int) (s : List UInt8) (w : World) (h : PkI w vn vt N tags) (ho : ∀ b (h : b < 256), o[b] < 256) (hs : s.length ≤ 9223372036854775807) :
    Calls Tryd.prog 9 #[pkV o vn vt, str s] w (Meets (lexS (lexA o N tags s)) w) := by
  have hck := fun w' (hg : Gr w w') => lexCheck_calls o vn vt N tags s w' (h.gr hg) ho hs
  have hone := fun hg hs (fr : Nat) hf w' (hg' : Gr w w') => lexOne_calls o vn vt N tags s fr w' (h.gr hg') hg hs hf
  have hA0 := fun h => lexA_ok (o := o) (N := N) (tags := tags) (s := s) h
  obtain ⟨⟨an, cn, rfl, -⟩, at', ct, rfl, -⟩ := h
  by_cases c1 : chkP o N tags = 0
  case neg =>
    have hA : lexA o N tags s = ([], 0, chkP o N tags) := if_pos c1
    rw [if_pos c1] at hck
    rw [hA]
    clear hA0 hA hone
    generalize chkP o N tags = e at *
    refine enter (args := [pkV o (.slice an N.length cn) (.slice at' tags.length ct), str s]) (n := 40) Tryd.func9 rfl rfl rfl ?_
    refine T_seq (T_region (TL_box rfl rfl rfl fun g2 => ?_))
    conv => arg 8; simp only [zA, zB, zC, zD, zE, zF, zG, zH, zI, rowS, ret, id_eq]
    repeat (first
      | refine QV QP ?_ | refine QZ ?_ | refine qcT rfl ?_ | refine qcF rfl ?_ | refine E_blockX ?_ | refine E_blockO rfl ?_
      | refine QV (rr_loadB (i := 0) TyC.ty rfl rfl (pk_size _ _ _)) ?_ | refine QV QS ?_ | refine QV QA ?_ | refine QV (rr_not rfl rfl) ?_ | refine QV QlT ?_
      | refine QV QlF ?_ | refine QV QnT ?_ | refine QV QnF ?_)
    refine TL_call (he2 EntersC.en rfl rfl rfl) (fun w hm => hck _ hm.below) rfl rfl rfl ?_
    intro _ _
    conv => arg 8; simp only [zA, zB, zC, zD, zE, zF, zG, zH, zI, rowS, ret, id_eq]
    repeat (first
      | refine QV QP ?_ | refine QZ ?_ | refine qcT rfl ?_ | refine qcF rfl ?_ | refine E_blockX ?_ | refine E_blockO rfl ?_
      | refine QV (rr_neq (b := true) rfl rfl (decide_eq_true c1)) ?_ | refine QV QS ?_ | refine QV QA ?_ | refine QV (rr_not rfl rfl) ?_ | refine QV QlT ?_
      | refine QV QlF ?_ | refine QV QnT ?_ | refine QV QnF ?_)
    refine E_nilrow 53 3 ?_
    exact E_ret3 rfl rfl rfl rfl fun w hm => hm.meets (S := lexS ([], 0, e)) (.slice none 0 0) trivial [1] (by decide) rfl
  by_cases c2 : 2000 < s.length
  · have hA : lexA o N tags s = ([], 0, 2) := by unfold lexA; rw [if_neg (by simpa using c1), if_pos c2]
    rw [if_neg (by simpa using c1), if_pos c2] at hck
    rw [hA]
    clear hA0 hA hone
    refine enter (args := [pkV o (.slice an N.length cn) (.slice at' tags.length ct), str s]) (n := 40) Tryd.func9 rfl rfl rfl ?_
    refine T_seq (T_region (TL_box rfl rfl rfl fun g2 => ?_))
    conv => arg 8; simp only [zA, zB, zC, zD, zE, zF, zG, zH, zI, rowS, ret, id_eq]
    repeat (first
      | refine QV QP ?_ | refine QZ ?_ | refine qcT rfl ?_ | refine qcF rfl ?_ | refine E_blockX ?_ | refine E_blockO rfl ?_
      | refine QV (rr_loadB (i := 0) TyC.ty rfl rfl (pk_size _ _ _)) ?_ | refine QV QS ?_ | refine QV QA ?_ | refine QV (rr_not rfl rfl) ?_ | refine QV QlT ?_
      | refine QV QlF ?_ | refine QV QnT ?_ | refine QV QnF ?_)
    refine TL_call (he2 EntersC.en rfl rfl rfl) (fun w hm => hck _ hm.below) rfl rfl rfl ?_
    intro _ _
    conv => arg 8; simp only [zA, zB, zC, zD, zE, zF, zG, zH, zI, rowS, ret, id_eq]
    repeat (first
      | refine QV QP ?_ | refine QZ ?_ | refine qcT rfl ?_ | refine qcF rfl ?_ | refine E_blockX ?_ | refine E_blockO rfl ?_
      | refine QV (rr_neq (b := true) rfl rfl (decide_eq_true (by decide))) ?_ | refine QV QS ?_ | refine QV QA ?_ | refine QV (rr_not rfl rfl) ?_
      | refine QV QlT ?_ | refine QV QlF ?_ | refine QV QnT ?_ | refine QV QnF ?_)
    refine E_nilrow 53 3 ?_
    exact E_ret3 rfl rfl rfl rfl fun w hm => hm.meets (S := lexS ([], 0, 2)) (.slice none 0 0) trivial [1] (by decide) rfl
  rw [if_neg (by simpa using c1), if_neg c2] at hck
  have hone := hone (chkP_good c1) (by omega)
  rw [hA0 c1 (by omega)]
  unfold lexF
  clear hA0 c1
  refine enter (args := [pkV o (.slice an N.length cn) (.slice at' tags.length ct), str s]) (n := 40) Tryd.func9 rfl rfl rfl ?_
  refine T_seq (T_region (TL_box rfl rfl rfl fun g2 => ?_))
  conv => arg 8; simp only [zA, zB, zC, zD, zE, zF, zG, zH, zI, rowS, ret, id_eq]
  repeat (first
    | refine QV QP ?_ | refine QZ ?_ | refine qcT rfl ?_ | refine qcF rfl ?_ | refine E_blockX ?_ | refine E_blockO rfl ?_
    | refine QV (rr_loadB (i := 0) TyC.ty rfl rfl (pk_size _ _ _)) ?_ | refine QV QS ?_ | refine QV QA ?_ | refine QV (rr_not rfl rfl) ?_ | refine QV QlT ?_
    | refine QV QlF ?_ | refine QV QnT ?_ | refine QV QnF ?_)
  refine TL_call (he2 EntersC.en rfl rfl rfl) (fun w hm => hck _ hm.below) rfl rfl rfl ?_
  intro _ _
  conv => arg 8; simp only [zA, zB, zC, zD, zE, zF, zG, zH, zI, rowS, ret, id_eq]
  clear hck
  repeat (first
    | refine QV QP ?_ | refine QZ ?_ | refine qcT rfl ?_ | refine qcF rfl ?_ | refine E_blockX ?_ | refine E_blockO rfl ?_
    | refine QV (rr_neq (b := false) rfl rfl (decide_eq_false (by simp))) ?_ | refine QV QS ?_ | refine QV QA ?_ | refine QV (rr_not rfl rfl) ?_
    | refine QV QlT ?_ | refine QV QlF ?_ | refine QV QnT ?_ | refine QV QnF ?_)
  refine T_nil 53 3 ?_
  generalize hfin : lexGo o N tags s (s.length + 1) 0 = fin
  refine T_loop (ι := Nat × List Tok × Value × Nat) (fun (a, l, _, f) => a ≤ s.length ∧ l.length ≤ a ∧ s.length < a + f ∧ fin = (l ++ (lexGo o N tags s f a).1, (lexGo o N tags s f a).2)) (fun (a, _, v, _) => [(1, str s), (2, .pointer (some ⟨g2, 0, none⟩)), (8, v), (9, .int .i64 (a : Int))])
    (fun (_, l, v, _) => [blkO g2 (pkC o (.slice an N.length cn) (.slice at' tags.length ct)).toArray 46, toksO v l]) (fun (a, _, _, _) => s.length - a) (0, [], .slice none 0 0, s.length + 1) ⟨Nat.zero_le _, Nat.zero_le _, by omega, by rw [hfin]; rfl⟩ (by repeat' (first | exact True.intro | refine And.intro rfl ?_)) rfl ?_
  clear hfin
  rintro ⟨a, l, v, f⟩ ⟨i1, i2, i3, i4⟩
  dsimp only at i1 i2 i3 i4 ⊢
  by_cases c1 : a < s.length
  · obtain ⟨f, rfl⟩ : ∃ f', f = f' + 1 := ⟨f - 1, by omega⟩
    rw [lexGo_succ, if_pos c1] at i4
    have ht := oneF_to (o := o) (N := N) (tags := tags) (s := s) (fr := a) (by omega)
    have hone := hone a (by omega)
    generalize oneF o N tags s a = x at *
    obtain ⟨r, t⟩ := x
    dsimp only at i4 ht
    unfold oneA at hone
    by_cases q1 : t = 0
    · subst q1
      rw [if_pos rfl] at i4 hone
      subst i4
      repeat (first
        | refine QV QP ?_ | refine QZ ?_ | refine qcT rfl ?_ | refine qcF rfl ?_ | refine E_blockX ?_ | refine E_blockO rfl ?_
        | refine QV (rr_loadB (i := 0) TyC.ty rfl rfl (pk_size _ _ _)) ?_ | refine QV QS ?_ | refine QV QA ?_ | refine QV (rr_not rfl rfl) ?_ | refine QV QlT ?_
        | refine QV QlF ?_ | refine QV QnT ?_ | refine QV QnF ?_)
      refine TL_call (he3 EntersC.en rfl rfl rfl rfl) (fun w hm => hone _ hm.below) rfl rfl rfl ?_
      intro _ _
      conv => arg 8; simp only [zA, zB, zC, zD, zE, zF, zG, zH, zI, rowS, ret, id_eq]
      repeat (first
        | refine QV QP ?_ | refine QZ ?_ | refine qcT rfl ?_ | refine qcF rfl ?_ | refine E_blockX ?_ | refine E_blockO rfl ?_ | refine QV QS ?_
        | refine QV QA ?_ | refine QV (rr_not rfl rfl) ?_ | refine QV QlT ?_ | refine QV QlF ?_ | refine QV QnT ?_ | refine QV QnF ?_)
      refine TL_new rfl fun g10 => ?_
      conv => arg 8; simp only [zA, zB, zC, zD, zE, zF, zG, zH, zI, rowS, ret, id_eq]
      refine TL_storeB (i := 2) (cs' := (tokC (0, 0, 0)).toArray) rfl rfl rfl rfl rfl rfl ?_
      conv => arg 8; simp only [zA, zB, zC, zD, zE, zF, zG, zH, zI, rowS, ret, id_eq]
      repeat (first
        | refine QV QP ?_ | refine QZ ?_ | refine qcT rfl ?_ | refine qcF rfl ?_ | refine E_blockX ?_ | refine E_blockO rfl ?_ | refine QV QS ?_
        | refine QV QA ?_ | refine QV (rr_not rfl rfl) ?_ | refine QV QlT ?_ | refine QV QlF ?_ | refine QV QnT ?_ | refine QV QnF ?_)
      exact E_ret3 rfl rfl rfl rfl fun w hm => hm.meets (S := lexS (l ++ [], a, 9)) v trivial [1] (by decide) (by unfold lexS; simp)
    · rw [if_neg q1] at i4 hone
      dsimp only at hone
      have ht := ht.resolve_left q1
      repeat (first
        | refine QV QP ?_ | refine QZ ?_ | refine qcT rfl ?_ | refine qcF rfl ?_ | refine E_blockX ?_ | refine E_blockO rfl ?_
        | refine QV (rr_loadB (i := 0) TyC.ty rfl rfl (pk_size _ _ _)) ?_ | refine QV QS ?_ | refine QV QA ?_ | refine QV (rr_not rfl rfl) ?_ | refine QV QlT ?_
        | refine QV QlF ?_ | refine QV QnT ?_ | refine QV QnF ?_)
      refine TL_call (he3 EntersC.en rfl rfl rfl rfl) (fun w hm => hone _ hm.below) rfl rfl rfl ?_
      intro _ _
      conv => arg 8; simp only [zA, zB, zC, zD, zE, zF, zG, zH, zI, rowS, ret, id_eq]
      repeat (first
        | refine QV QP ?_ | refine QZ ?_ | refine qcT rfl ?_ | refine qcF rfl ?_ | refine E_blockX ?_ | refine E_blockO rfl ?_ | refine QV QS ?_
        | refine QV QA ?_ | refine QV (rr_not rfl rfl) ?_ | refine QV QlT ?_ | refine QV QlF ?_ | refine QV QnT ?_ | refine QV QnF ?_)
      refine TL_new rfl fun g10 => ?_
      conv => arg 8; simp only [zA, zB, zC, zD, zE, zF, zG, zH, zI, rowS, ret, id_eq]
      refine TL_storeB (i := 2) (cs' := (tokC (r, a, t)).toArray) rfl rfl rfl rfl rfl rfl ?_
      conv => arg 8; simp only [zA, zB, zC, zD, zE, zF, zG, zH, zI, rowS, ret, id_eq]
      repeat (first
        | refine QV QP ?_ | refine QZ ?_ | refine qcT rfl ?_ | refine qcF rfl ?_ | refine E_blockX ?_ | refine E_blockO rfl ?_ | refine QV QS ?_
        | refine QV QA ?_ | refine QV (rr_not rfl rfl) ?_ | refine QV QlT ?_ | refine QV QlF ?_ | refine QV QnT ?_ | refine QV QnF ?_)
      refine T_ord ([blkO g10 (tokC (r, a, t)).toArray 53]) (.calm 0 (.calm 1 (.calm 4 (.calm 5 (.one 2 (.one 3 (.calm 6 (.calm 7 (.done))))))))) (sub_pick [2] (by decide) rfl) (by kernel_rfl) (by kernel_rfl) (by intro c a d v w h; cases d <;> exact h) ?_
      repeat (first
        | ((first | refine TW_plain rfl rfl ?_ | refine TW_gmet rfl rfl rfl rfl ?_); first | refine QW QP ?_ | refine QW (rr_loadB (i := 0) TyC.ty rfl rfl rfl) ?_ | refine QW (rr_load1 (v := .int .i64 (t : Int)) TyC.ty rfl (at_blk (i := 0) rfl rfl)) ?_ | refine QW QS ?_ | refine QW QA ?_ | refine QW (rr_not rfl rfl) ?_ | refine QW QlT ?_ | refine QW QlF ?_ | refine QW QnT ?_ | refine QW QnF ?_)
        | refine TW_done ?_)
      refine TW_one rfl (TL_litN (cs := (tokC (r, a, t)).toArray) [.agg (tokC (r, a, t)).toArray] rfl rfl rfl (by intro v hv; simp at hv; subst hv; rfl) rfl rfl rfl fun g35 => (TW_on (sub_pick [2] (by decide) rfl) ?_))
      refine TW_one rfl (TL_appSl (i := 1) (e := 53) (size := 3) (bytes := 24) (m := l.length) (xs := l.flatMap tokC) (k := 1) (ys := tokC (r, a, t)) rfl (sl_blk (i := 3) rfl (fun j u h => by simpa using h) (Nat.le_refl 1) (by decide)) rfl rfl rfl (fun u hu => tok_one _ u hu) (by omega) (by omega) rfl fun v' => (TW_on (sub_pick [2] (by decide) rfl) ?_))
      repeat (first
        | ((first | refine TW_plain rfl rfl ?_ | refine TW_gmet rfl rfl rfl rfl ?_); first | refine QW QP ?_ | refine QW QS ?_ | refine QW QA ?_ | refine QW (rr_not rfl rfl) ?_ | refine QW QlT ?_ | refine QW QlF ?_ | refine QW QnT ?_ | refine QW QnF ?_)
        | refine TW_done ?_)
      repeat (first
        | refine QV QP ?_ | refine QZ ?_ | refine qcT rfl ?_ | refine qcF rfl ?_ | refine E_blockX ?_ | refine E_blockO rfl ?_ | refine QV QS ?_
        | refine QV QA ?_ | refine QV (rr_not rfl rfl) ?_ | refine QV QlT ?_ | refine QV QlF ?_ | refine QV QnT ?_ | refine QV QnF ?_)
      refine E_pick [0, 1] (by decide) rfl ?_
      exact E_round (t, l ++ [(r, a, t)], v', f) ⟨ht.2, by show (l ++ [_]).length ≤ t; rw [List.length_append, List.length_singleton]; omega, by show s.length < t + f; omega, by rw [i4]; simp⟩ (by show s.length - t < s.length - a; omega) (by repeat' (first | exact True.intro | refine And.intro rfl ?_)) (by dsimp only; rw [toks_snoc]; rfl)
  · have e : lexGo o N tags s f a = ([], 0, 0) := by
      cases f with
      | zero => rfl
      | succ f => rw [lexGo_succ, if_neg c1]
    rw [e] at i4
    subst i4
    repeat (first
      | refine QV QP ?_ | refine QZ ?_ | refine qcT rfl ?_ | refine qcF rfl ?_ | refine E_blockX ?_ | refine E_blockO rfl ?_ | refine QV QS ?_
      | refine QV QA ?_ | refine QV (rr_not rfl rfl) ?_ | refine QV QlT ?_ | refine QV QlF ?_ | refine QV QnT ?_ | refine QV QnF ?_)
    exact E_ret3 rfl rfl rfl rfl fun w hm => hm.meets (S := lexS (l ++ [], 0, 0)) v trivial [1] (by decide) (by unfold lexS; simp)
end Go.Proofs.YtkcnoompimohnaaDoor.eng

/- SmBk -/
namespace Go.Proofs.YtkcnoompimohnaaDoor.eng
open Go.RowKit kit mix dfaL smallL
theorem pkR_len (R : List Row) : (pkR R).length = R.length := by unfold pkR; simp
theorem pkR_get (R : List Row) {i : Nat} (h : i < R.length) : (pkR R)[i]'(by rw [pkR_len]; exact h) = nxL (pkD R 256) i := by unfold pkR; simp
theorem nxL_get (D : List Col) (i : Nat) {j : Nat} (h : j < D.length) : (nxL D i).getD j 0 = (D[j]).toList.getD i 0 := by
  unfold nxL
  rw [List.getD_eq_getElem?_getD, List.getElem?_map, List.getElem?_eq_getElem h]; rfl
theorem pk_cell (R : List Row) (hle : R.length ≤ 200) {i b : Nat} (hi : i < R.length) (hb : b < 256) : (nxL (pkD R 256) i).getD (pkN R b) 0 = cellF R i b := by
  have hm := pkD_mem R hb
  unfold pkN
  generalize pkD R 256 = D at *
  rw [nxL_get _ _ (idx_lt hm), idx_get (idx_lt hm), colF_get R b i hi hle]
theorem unR_get (o : Of) (N : List (List Int)) {i : Nat} (h : i < N.length) : (unR o N)[i]'(by rw [unR_len]; exact h) = Vector.ofFn fun b : Fin 256 => N[i].getD o[b] 0 := by
  unfold unR
  rw [List.getElem_map]
theorem un_pk (R : List Row) (hle : R.length ≤ 200) : unR (ofS R 256) (pkR R) = R := by
  refine List.ext_getElem (by rw [unR_len, pkR_len]) fun i h1 h2 => ?_
  have hi : i < R.length := h2
  rw [unR_get _ _ (by rw [pkR_len]; exact hi), pkR_get R hi]
  refine Vector.ext fun b hb => ?_
  rw [Vector.getElem_ofFn]
  have e : (ofS R 256)[b]'hb = pkN R b := by
    unfold ofS
    rw [Vector.getElem_ofFn]; simp [hb]
  show (nxL (pkD R 256) i).getD ((ofS R 256)[b]'hb) 0 = _
  rw [e, pk_cell R hle hi hb, cell_get hi hb]
theorem pkD_all {R : List Row} {c : Col} (h : c ∈ pkD R 256) : ∃ b, b < 256 ∧ c = colF R b := by
  unfold pkD at h
  rcases mem_firsts.1 h with h | h
  · cases h
  · obtain ⟨b, hb, rfl⟩ := List.mem_map.1 h
    exact ⟨b, by simpa using hb, rfl⟩
theorem nx_rng {R : List Row} {tags : List Int} (h : chk R tags = 0) {i : Nat} (hi : i < R.length) {x : Int} (hx : x ∈ nxL (pkD R 256) i) : -1 ≤ x ∧ x < R.length := by
  obtain ⟨hA, _⟩ := chk_ok h
  unfold nxL at hx
  obtain ⟨c, hc, rfl⟩ := List.mem_map.1 hx
  obtain ⟨b, hb, rfl⟩ := pkD_all hc
  rw [colF_get R b i hi hA.le, cell_get hi hb]
  have := hA.step i hi b hb
  rw [aut_d hi hb] at this
  exact this
theorem pk_ok {R : List Row} {tags : List Int} (h : chk R tags = 0) : PkOk (ofS R 256) (pkR R) tags (pkD R 256).length := by
  obtain ⟨hA, hl⟩ := chk_ok h
  have hle : R.length ≤ 200 := hA.le
  refine ⟨by rw [pkR_len]; exact hA.pos, by rw [pkR_len]; exact hle, by rw [pkR_len]; exact hl, List.length_pos_of_mem (pkD_mem R (show 0 < 256 by decide)), pkD_len R 256, fun i hi => ?_, fun i hi => ?_, fun i hi j hj => ?_, fun b hb => ?_⟩
  · rw [pkR_len] at hi
    rw [pkR_get R hi]
    unfold nxL; rw [List.length_map]
  · have := hA.tags i (show i < R.length by omega)
    rw [aut_tag hi] at this
    exact this
  · have hi' : i < R.length := by rw [pkR_len] at hi; exact hi
    have e := pkR_get R hi'
    have hx : (pkR R)[i][j] ∈ nxL (pkD R 256) i := e ▸ List.getElem_mem hj
    rw [pkR_len]
    exact nx_rng h hi' hx
  · have e : (ofS R 256)[b]'hb = pkN R b := by
      unfold ofS
      rw [Vector.getElem_ofFn]; simp [hb]
    rw [e]
    exact pkN_lt R hb
end Go.Proofs.YtkcnoompimohnaaDoor.eng

/- LexN -/
namespace Go.Proofs.YtkcnoompimohnaaDoor.lexL
open Go.RowKit kit mix eng smallL
/-- the same with whatever tells the next state -/
def goN (nx : Int → UInt8 → Int) (tags : List Int) : List UInt8 → Nat → Int → Int → Nat → Int × Nat
  | [], _, _, r, t => (r, t)
  | b :: s, i, now, r, t =>
    if nx now b < 0 then (r, t)
    else if 0 ≤ tags.getD (nx now b).toNat 0 then goN nx tags s (i + 1) (nx now b) (tags.getD (nx now b).toNat 0) (i + 1)
    else goN nx tags s (i + 1) (nx now b) r t
theorem goN_congr {nx nx' : Int → UInt8 → Int} {tags : List Int} {n : Nat} (h : ∀ (q : Nat), q < n → ∀ b, nx q b = nx' q b ∧ -1 ≤ nx q b ∧ nx q b < n) : ∀ (s : List UInt8) (i q : Nat) (r : Int) (t : Nat), q < n → goN nx tags s i q r t = goN nx' tags s i q r t
  | [], _, _, _, _, _ => rfl
  | b :: s, i, q, r, t, hq => by
    obtain ⟨h1, h2, h3⟩ := h q hq b
    unfold goN
    rw [← h1]
    by_cases c : nx q b < 0
    · rw [if_pos c, if_pos c]
    · rw [if_neg c, if_neg c]
      obtain ⟨z, hz⟩ := Int.eq_ofNat_of_zero_le (show 0 ≤ nx q b by omega)
      rw [hz] at h3 ⊢
      rw [goN_congr h s (i + 1) z _ _ (by omega), goN_congr h s (i + 1) z _ _ (by omega)]
theorem one_goN (o : Of) (N : List (List Int)) (tags : List Int) : ∀ (s : List UInt8) (i : Nat) (now r : Int) (t : Nat), oneGo o N tags s i now r t = goN (nxP o N) tags s i now r t
  | [], _, _, _, _ => rfl
  | b :: s, i, now, r, t => by
    rw [oneGo_cons, goN, one_goN o N tags s, one_goN o N tags s]
/-- by rows -/
def nxR (R : List Row) (now : Int) (b : UInt8) : Int := (R.getD now.toNat row0).toList.getD b.toNat 0
theorem nxP_un {o : Of} {N : List (List Int)} {tags : List Int} (h : PkGood o N tags) {q : Nat} (hq : q < N.length) (b : UInt8) : nxP o N (q : Int) b = nxR (unR o N) q b := by
  obtain ⟨_, hw, e, _⟩ := nxP_in h hq b
  rw [e]
  unfold nxR unR
  rw [Int.toNat_natCast, List.getD_eq_getElem?_getD (l := List.map _ _), List.getElem?_map, List.getElem?_eq_getElem hq, Option.map_some, Option.getD_some, List.getD_eq_getElem?_getD, List.getElem?_eq_getElem (by simpa using b.toNat_lt), Option.getD_some, Vector.getElem_toList, Vector.getElem_ofFn]
  show _ = N[q].getD (o[b.toNat]'b.toNat_lt) 0
  rw [List.getD_eq_getElem?_getD, List.getElem?_eq_getElem hw]; rfl
def oneR (R : List Row) (tags : List Int) (s : List UInt8) (fr : Nat) : Int × Nat := goN (nxR R) tags (s.drop fr) fr 0 0 0
theorem one_rows {o : Of} {N : List (List Int)} {tags : List Int} (h : PkGood o N tags) (s : List UInt8) (fr : Nat) : oneF o N tags s fr = oneR (unR o N) tags s fr := by
  unfold oneF oneR
  rw [one_goN]
  exact goN_congr (n := N.length) (fun q hq b => ⟨nxP_un h hq b, (nxP_in h hq b).2.2.2⟩) _ fr 0 0 0 h.pos
def lexR (R : List Row) (tags : List Int) (s : List UInt8) : Nat → Nat → List Tok × Nat × Int
  | 0, _ => ([], 0, 0)
  | f + 1, at' => if at' < s.length then (if (oneR R tags s at').2 = 0 then ([], at', 9) else ((((oneR R tags s at').1, at', (oneR R tags s at').2) :: (lexR R tags s f (oneR R tags s at').2).1), (lexR R tags s f (oneR R tags s at').2).2)) else ([], 0, 0)
theorem lex_rows {o : Of} {N : List (List Int)} {tags : List Int} (h : PkGood o N tags) (s : List UInt8) : ∀ f at', lexGo o N tags s f at' = lexR (unR o N) tags s f at'
  | 0, _ => rfl
  | f + 1, at' => by rw [lexGo_succ, lexR, one_rows h, lex_rows h s f]
theorem lexF_rows {o : Of} {N : List (List Int)} {tags : List Int} (h : PkGood o N tags) (s : List UInt8) : lexF o N tags s = lexR (unR o N) tags s (s.length + 1) 0 := lex_rows h s _ _
end Go.Proofs.YtkcnoompimohnaaDoor.lexL
namespace Go.Proofs.YtkcnoompimohnaaDoor.eng
open Go.RowKit kit mix smallL
/-- a packed automaton that was made -/
theorem Mem.pkI {B : Base} {w : World} {L : List Own} {i j k g : Nat} {R : List Row} {tags : List Int} {vs : Nat → Value} {vt : Value} (hm : Mem B L w) (hi : L[i]? = some (rowA 24 valV g R.length vs)) (hj : L[j]? = some (nxO R.length (pkD R 256) vs)) (hk : L[k]? = some (rowO 3 1 vt tags.length (tags.flatMap kit.intC))) (hc : chk R tags = 0) :
    PkI w (.slice (some ⟨g, 0, none⟩) R.length R.length) vt (pkR R) tags := by
  have h1 : (rowA 24 valV g R.length vs).holds w := hm.get hi
  have h2 : (nxO R.length (pkD R 256) vs).holds w := hm.get hj
  have ok := pk_ok hc
  refine ⟨⟨some ⟨g, 0, none⟩, R.length, by rw [pkR_len], by rw [pkR_len]; exact Nat.le_refl _, by have := ok.le; rw [pkR_len] at this; unfold maxLen; omega, fun h0 => ⟨g, 0, rfl, ?_, fun i hi => ⟨[vs i], ⟨vs i, rfl, ?_⟩, fun j u hj => ?_⟩⟩⟩, sl_row hk _ hm⟩
  · rw [pkR_len] at h0
    exact World.block_lt_of_cell? w _ (rowA_cell h1 h0)
  · have hi2 : i < R.length := by rw [pkR_len] at hi; exact hi
    have h3 : (rowO 3 1 (vs i) (pkD R 256).length ((nxL (pkD R 256) i).flatMap kit.intC)).holds w := h2.1 i hi2
    have h4 : Sl w (vs i) (pkD R 256).length ((nxL (pkD R 256) i).flatMap kit.intC) := Sl.of_own h3
    have e : (pkR R)[i] = nxL (pkD R 256) i := pkR_get R hi2
    have hl : (nxL (pkD R 256) i).length = (pkD R 256).length := List.length_map ..
    refine SlF.of_flat (by rw [e, hl]; exact h4) (fun x hx => ?_) (fun b hb => ?_) fun a n cp hv => ?_
    · obtain ⟨q, hq, rfl⟩ := List.mem_iff_getElem.1 hx
      have := ok.rng i hi q hq
      have := ok.le
      exact ⟨by omega, by omega⟩
    · exact Own.lt _ w h3 b (.inl hb)
    · exact Own.lt _ w h3 a.block (.inl (by rw [hv]; rfl))
  · have hi2 : i < R.length := by rw [pkR_len] at hi; exact hi
    have hj0 : j = 0 := by have := (List.getElem?_eq_some_iff.1 hj).1; simp at this; exact this
    subst hj0
    simp only [List.getElem?_cons_zero, Option.some.injEq] at hj
    subst hj
    have := rowA_cell h1 hi2
    show w.cell? ⟨g, 0 + i * 1 + 0, none⟩ = some (vs i)
    rw [Nat.mul_one, Nat.add_zero]
    exact this
theorem ofS_256 (R : List Row) : ∀ b (h : b < 256), (ofS R 256)[b] < 256 := fun b hb => by
  have e : (ofS R 256)[b]'hb = pkN R b := by
    unfold ofS
    rw [Vector.getElem_ofFn]; simp [hb]
  rw [e]
  exact pkN_256 R hb
theorem pk_good {R : List Row} {tags : List Int} (h : chk R tags = 0) : PkGood (ofS R 256) (pkR R) tags := by
  have ok := pk_ok h
  have : ((pkR R).headD []).length = (pkD R 256).length := by
    have h0 := ok.pos
    have := ok.row 0 h0
    cases hR : pkR R with
    | nil => rw [hR] at h0; simp at h0
    | cons x r => simp only [hR] at this; exact this
  unfold PkGood
  rw [this]
  exact ok
end Go.Proofs.YtkcnoompimohnaaDoor.eng

/- LexW -/
namespace Go.Proofs.YtkcnoompimohnaaDoor.lexL
open Go.RowKit kit mix eng smallL
/-- where goN ends -/
theorem goN_long {R : List Row} {tags : List Int} (hA : (aut R tags).Ok) : ∀ (s : List UInt8) (i : Nat) (q r : Int) (t : Nat), St (aut R tags) q → 0 ≤ q →
    (goN (nxR R) tags s i q r t = (r, t) ∧ ∀ k, 0 < k → k ≤ s.length → tg (aut R tags) (go (aut R tags) q (s.take k)) < 0) ∨
    (∃ k, 0 < k ∧ k ≤ s.length ∧ goN (nxR R) tags s i q r t = (tg (aut R tags) (go (aut R tags) q (s.take k)), i + k) ∧ 0 ≤ tg (aut R tags) (go (aut R tags) q (s.take k)) ∧ ∀ j, k < j → j ≤ s.length → tg (aut R tags) (go (aut R tags) q (s.take j)) < 0)
  | [], _, _, _, _, _, _ => .inl ⟨rfl, fun k h1 h2 => by simp at h2; omega⟩
  | b :: s, i, q, r, t, hq, h0 => by
    have e : nxR R q b = dt (aut R tags) q b.toNat := by unfold dt; rw [if_neg (by omega)]; rfl
    have hst := st_dt hA hq b.toNat_lt
    have hgo : ∀ k, go (aut R tags) q ((b :: s).take (k + 1)) = go (aut R tags) (dt (aut R tags) q b.toNat) (s.take k) := fun k => rfl
    unfold goN
    rw [e]
    have hk : ∀ k, 0 < k → ∃ k', k = k' + 1 := fun k h => ⟨k - 1, by omega⟩
    generalize dt (aut R tags) q b.toNat = x at *
    have htag : tags.getD x.toNat 0 = (aut R tags).tag x.toNat := rfl
    by_cases c : x < 0
    · rw [if_pos c]
      refine .inl ⟨rfl, fun k h1 h2 => ?_⟩
      obtain ⟨k, rfl⟩ := hk k h1
      rw [hgo]
      have := go_neg (A := aut R tags) (s.take k) c
      unfold tg
      rw [if_pos this]; decide
    · rw [if_neg c, htag]
      have htg : tg (aut R tags) x = (aut R tags).tag x.toNat := by unfold tg; rw [if_neg c]
      by_cases c2 : 0 ≤ (aut R tags).tag x.toNat
      · rw [if_pos c2]
        right
        rcases goN_long hA s (i + 1) x ((aut R tags).tag x.toNat) (i + 1) hst (by omega) with ⟨h1, h2⟩ | ⟨k, h1, h2, h3, h4, h5⟩
        · refine ⟨1, by omega, by rw [List.length_cons]; omega, ?_, ?_, fun j h3 h4 => ?_⟩
          · rw [h1, hgo 0]; show _ = (tg (aut R tags) x, _); rw [htg]
          · rw [hgo 0]; show 0 ≤ tg (aut R tags) x; rw [htg]; exact c2
          · obtain ⟨j, rfl⟩ := hk j (by omega)
            rw [hgo]
            exact h2 j (by omega) (by rw [List.length_cons] at h4; omega)
        · refine ⟨k + 1, by omega, by rw [List.length_cons]; omega, ?_, by rw [hgo]; exact h4, fun j h6 h7 => ?_⟩
          · rw [h3, hgo]; exact Prod.ext rfl (by show i + 1 + k = i + (k + 1); omega)
          · obtain ⟨j, rfl⟩ := hk j (by omega)
            rw [hgo]
            exact h5 j (by omega) (by rw [List.length_cons] at h7; omega)
      · rw [if_neg c2]
        rcases goN_long hA s (i + 1) x r t hst (by omega) with ⟨h1, h2⟩ | ⟨k, h1, h2, h3, h4, h5⟩
        · refine .inl ⟨h1, fun k h3 h4 => ?_⟩
          obtain ⟨k, rfl⟩ := hk k h3
          rw [hgo]
          by_cases c3 : k = 0
          · subst c3
            show tg (aut R tags) x < 0
            rw [htg]; omega
          · exact h2 k (by omega) (by rw [List.length_cons] at h4; omega)
        · refine .inr ⟨k + 1, by omega, by rw [List.length_cons]; omega, ?_, by rw [hgo]; exact h4, fun j h6 h7 => ?_⟩
          · rw [h3, hgo]; exact Prod.ext rfl (by show i + 1 + k = i + (k + 1); omega)
          · obtain ⟨j, rfl⟩ := hk j (by omega)
            rw [hgo]
            exact h5 j (by omega) (by rw [List.length_cons] at h7; omega)
/-- a token that is right -/
def LongT (R : List Row) (tags : List Int) (s : List UInt8) (x : Tok) : Prop :=
  x.2.1 < x.2.2 ∧ x.2.2 ≤ s.length ∧ tagF R tags ((s.drop x.2.1).take (x.2.2 - x.2.1)) = (x.1, 0) ∧ ∀ e, x.2.2 < e → e ≤ s.length → (tagF R tags ((s.drop x.2.1).take (e - x.2.1))).1 < 0
theorem oneR_long {R : List Row} {tags : List Int} (hc : chk R tags = 0) {s : List UInt8} {a : Nat} (ha : a ≤ s.length) (h : (oneR R tags s a).2 ≠ 0) : LongT R tags s ((oneR R tags s a).1, a, (oneR R tags s a).2) := by
  have hA := (chk_ok hc).1
  unfold oneR at *
  rcases goN_long hA (s.drop a) a 0 0 0 (st_zero hA) (by decide) with ⟨h1, _⟩ | ⟨k, h1, h2, h3, h4, h5⟩
  · rw [h1] at h; exact absurd rfl h
  · rw [List.length_drop] at h2 h5
    rw [h3]
    refine ⟨by show a < a + k; omega, by show a + k ≤ s.length; omega, ?_, fun e he1 he2 => ?_⟩
    · show tagF R tags ((s.drop a).take (a + k - a)) = _
      rw [tagF_ok hc, Nat.add_sub_cancel_left]
    · have he1 : a + k < e := he1
      show (tagF R tags ((s.drop a).take (e - a))).1 < 0
      rw [tagF_ok hc]
      exact h5 _ (by omega) (by omega)
theorem lexR_long {R : List Row} {tags : List Int} (hc : chk R tags = 0) {s : List UInt8} : ∀ (f a : Nat), ∀ x ∈ (lexR R tags s f a).1, LongT R tags s x
  | 0, _, x, h => by cases h
  | f + 1, a, x, h => by
    unfold lexR at h
    by_cases c : a < s.length
    · rw [if_pos c] at h
      by_cases c2 : (oneR R tags s a).2 = 0
      · rw [if_pos c2] at h; cases h
      · rw [if_neg c2] at h
        rcases List.mem_cons.1 h with rfl | h
        · exact oneR_long hc (by omega) c2
        · exact lexR_long hc f _ x h
    · rw [if_neg c] at h; cases h
end Go.Proofs.YtkcnoompimohnaaDoor.lexL
namespace Go.Proofs.YtkcnoompimohnaaDoor.eng
open Go.RowKit kit mix smallL lexL
end Go.Proofs.YtkcnoompimohnaaDoor.eng

/- LxRl -/
namespace Go.Proofs.YtkcnoompimohnaaDoor.lexL
open Go.RowKit kit mix eng smallL
theorem oneR_law {R : List Row} {tags : List Int} (hc : chk R tags = 0) {s : List UInt8} {a : Nat} :
    ((oneR R tags s a).2 = 0 → ∀ e, a < e → e ≤ s.length → (tagF R tags ((s.drop a).take (e - a))).1 < 0) ∧ ((oneR R tags s a).2 ≠ 0 → 0 ≤ (oneR R tags s a).1) := by
  have hA := (chk_ok hc).1
  have h := goN_long (R := R) (tags := tags) hA (s.drop a) a 0 0 0 (st_zero hA) (Int.le_refl _)
  have e : oneR R tags s a = goN (nxR R) tags (s.drop a) a 0 0 0 := rfl
  rw [e]
  rcases h with ⟨h1, h2⟩ | ⟨k, h1, h2, h3, h4, h5⟩
  · rw [h1]
    refine ⟨fun _ e he hl => ?_, fun h => absurd rfl h⟩
    rw [tagF_ok hc]
    exact h2 (e - a) (by omega) (by rw [List.length_drop]; omega)
  · rw [h3]
    exact ⟨fun h => by have h : a + k = 0 := h; omega, fun _ => h4⟩
theorem lexR_rules {R : List Row} {tags : List Int} (hc : chk R tags = 0) {s : List UInt8} : ∀ (f a : Nat), a ≤ s.length → s.length < a + f → (∀ x ∈ (lexR R tags s f a).1, 0 ≤ x.1) ∧ ((lexR R tags s f a).2 = (0, 0) ∨ ((lexR R tags s f a).2.2 = 9 ∧ (lexR R tags s f a).2.1 ≤ s.length ∧ ∀ e, (lexR R tags s f a).2.1 < e → e ≤ s.length → (tagF R tags ((s.drop (lexR R tags s f a).2.1).take (e - (lexR R tags s f a).2.1))).1 < 0))
  | 0, a, h1, h2 => by omega
  | f + 1, a, h1, h2 => by
    have hl := oneR_law hc (s := s) (a := a)
    rw [lexR]
    by_cases c1 : a < s.length
    · rw [if_pos c1]
      by_cases c2 : (oneR R tags s a).2 = 0
      · rw [if_pos c2]
        exact ⟨fun x hx => (by cases hx), .inr ⟨rfl, h1, hl.1 c2⟩⟩
      · rw [if_neg c2]
        have hL := oneR_long hc h1 c2
        have h3 := hL.1
        have h4 := hL.2.1
        dsimp only at h3 h4
        have ih := lexR_rules hc (s := s) f (oneR R tags s a).2 h4 (by omega)
        refine ⟨fun x hx => ?_, ih.2⟩
        rcases List.mem_cons.1 hx with rfl | hx
        · exact hl.2 c2
        · exact ih.1 x hx
    · rw [if_neg c1]
      exact ⟨fun x hx => (by cases hx), .inl rfl⟩
end Go.Proofs.YtkcnoompimohnaaDoor.lexL

/- RexMany -/
namespace Go.Proofs.YtkcnoompimohnaaDoor.eng
open Go.RowKit kit mix classL rexL classSets
theorem rexs_of {w : World} {g : Nat} (l : List (Int × C4 × Value × Rx)) (h : (kidO g (l.map fun x => rexC x.1 x.2.1 x.2.2.1)).holds w) (hl : l.length ≤ 100) (hr : ∀ x ∈ l, RexIs (Low w) w (rexC x.1 x.2.1 x.2.2.1) x.2.2.2) :
    SlF rexS (Low w) w (.slice (some ⟨g, 0, none⟩) l.length l.length) (l.map fun x => x.2.2.2) := by
  have hb : w.heap[g]? = some (.cells (l.map fun x => rexC x.1 x.2.1 x.2.2.1).flatten.toArray 33 (0, 0)) := h
  have hm : (l.map fun x => x.2.2.2).length = l.length := List.length_map ..
  refine ⟨some ⟨g, 0, none⟩, l.length, by rw [hm], by rw [hm]; exact Nat.le_refl _, by unfold maxLen; omega, fun _ => ⟨g, 0, rfl, (Array.getElem?_eq_some_iff.1 hb).1, fun i hi => ?_⟩⟩
  have hi' : i < l.length := by omega
  refine ⟨rexC l[i].1 l[i].2.1 l[i].2.2.1, ?_, fun j u hj => ?_⟩
  · have e : (l.map fun x => x.2.2.2)[i] = l[i].2.2.2 := List.getElem_map ..
    rw [e]
    exact hr l[i] (List.getElem_mem hi')
  · rw [cell_of_row w g _ _ _ _ hb, List.getElem?_toArray, Nat.zero_add]
    have hj6 : j < 6 := by have := (List.getElem?_eq_some_iff.1 hj).1; simpa [rexC, clsL] using this
    have := flatten_get (c := 6) (l.map fun x => rexC x.1 x.2.1 x.2.2.1) (fun x hx => by obtain ⟨y, _, rfl⟩ := List.mem_map.1 hx; rfl) i j (by simpa using hi') hj6
    show (l.map fun x => rexC x.1 x.2.1 x.2.2.1).flatten[i * 6 + j]? = some u
    rw [this, List.getElem_map]; exact hj
/-- three -/
theorem rexs_3 {w : World} {g : Nat} {k1 k2 k3 : Int} {c1 c2 c3 : C4} {l1 l2 l3 : List Rx} {v1 v2 v3 : Value} (h : (kidO g [rexC k1 c1 v1, rexC k2 c2 v2, rexC k3 c3 v3]).holds w) (h1 : RexR (Low w) w (rexV k1 c1 v1) (.mk k1 c1 l1)) (h2 : RexR (Low w) w (rexV k2 c2 v2) (.mk k2 c2 l2)) (h3 : RexR (Low w) w (rexV k3 c3 v3) (.mk k3 c3 l3)) :
    SlF rexS (Low w) w (.slice (some ⟨g, 0, none⟩) 3 3) [.mk k1 c1 l1, .mk k2 c2 l2, .mk k3 c3 l3] :=
  rexs_of [(k1, c1, v1, .mk k1 c1 l1), (k2, c2, v2, .mk k2 c2 l2), (k3, c3, v3, .mk k3 c3 l3)] h (by simp) fun x hx => by
    simp only [List.mem_cons, List.not_mem_nil, or_false] at hx
    rcases hx with rfl | rfl | rfl
    · exact rex_cs (r := .mk k1 c1 l1) h1
    · exact rex_cs (r := .mk k2 c2 l2) h2
    · exact rex_cs (r := .mk k3 c3 l3) h3
end Go.Proofs.YtkcnoompimohnaaDoor.eng

