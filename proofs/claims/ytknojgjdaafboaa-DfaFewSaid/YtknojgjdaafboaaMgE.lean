/- Part 5 of what DfaFew needs: SmO, SmT, DfX, DfM, Made, PlacesG, PlacesH, ClassP, DfQ, AbcL, MadeL, SmD, Fam, SmY, RestE, Slm, DfaFewW. -/
import Derived.Test.YtknojgjdaafboaaMgD
import Derived.WalkKit
import Derived.WalkSpells
import Derived.WalkLawsBesides
import Derived.Deep.RegionLaw
import Derived.Deep.AppendLies
import Derived.Deep.QuietTactic
import Derived.BigQuiet
import Derived.Deep.DeepCutAuto
import Derived.Lib.Hide
import Derived.Test.YtknojgjdaafboaaRows
import Derived.ProofKit
import Derived.OpenShut
import Derived.ShutString
import Derived.SizedLaws
import Derived.JoinedCond
import Derived.Deep.CondSized
import Derived.Deep.Quiet
import Derived.StillTail
import Derived.Deep.LoopGhost
import Derived.Laws.BitsLemmas
import Derived.Laws.BytesString
import Derived.Test.YtknojgjdaafboaaProg
import Derived.Laws.Entries
import Derived.Laws.BitsAllLaws
import Derived.Lib.TrailingZeros
import Derived.Laws.StructEq
import Derived.Laws.MakeOwn
import Derived.Laws.AppendOwn
import Derived.Maps.OwnSet
import Derived.DeepKeys4
import Derived.WideKeyEntry
import Derived.Laws.Bits64b
import Derived.Lib.SlicesCompact
import Derived.Shelf.Sort.Plain
import Derived.Ground.Names2Prog
import Derived.Shelf.Slices.CompactI
import Derived.Shelf.Slices.In.SortNone
import Derived.Lib.RowBridge
import Derived.ChangeKeysEq
/- SmO -/
namespace Go.Proofs.Ytknojgjdaafboaa.eng
open Go.RowKit kit mix dfaL smallL
def rowC (r : Row) : List Value := r.toList.map (.int .i16)
theorem rowC_len (r : Row) : (rowC r).length = 256 := by simp [rowC]
theorem row_one (l : List Row) : ∀ u ∈ l.flatMap rowC, u.oneCell' = true := by
  intro u hu
  obtain ⟨x, _, h⟩ := List.mem_flatMap.1 hu
  obtain ⟨n, _, rfl⟩ := List.mem_map.1 h
  rfl
def dfaV (vr vt : Value) : Value := .agg #[vr, vt]
def row0 : Row := Vector.replicate 256 0
/-- an automaton that can be read -/
structure DfaM (w : World) (vr vt : Value) (R : List Row) (tags : List Int) : Prop where
  hR : Sl w vr R.length (R.flatMap rowC)
  hT : Sl w vt tags.length (tags.flatMap kit.intC)
  rng : ∀ r ∈ R, ∀ x ∈ r.toList, -32768 ≤ x ∧ x ≤ 32767
  okT : ∀ x ∈ tags, kit.okI64 x
theorem DfaM.gr {w w' : World} {vr vt : Value} {R : List Row} {tags : List Int} (h : DfaM w vr vt R tags) (hg : Gr w w') : DfaM w' vr vt R tags := ⟨h.hR.gr hg, h.hT.gr hg, h.rng, h.okT⟩
theorem DfaM.isDfa {w : World} {vr vt : Value} {R : List Row} {tags : List Int} (h : DfaM w vr vt R tags) : IsDfa w (dfaV vr vt) (R.map Vector.toList) tags := by
  refine ⟨vr, vt, rfl, ?_, ?_, fun r hr => by obtain ⟨x, _, rfl⟩ := List.mem_map.1 hr; simp⟩
  · obtain ⟨base, cap, h1, h2, h3, h4⟩ := h.hR
    refine ⟨base, cap, by rw [List.length_map]; exact h1, by rw [List.length_map]; exact h2, h3, fun h0 => ?_⟩
    rw [List.length_map] at h0
    obtain ⟨b, off, h5, h6⟩ := h4 h0
    refine ⟨b, off, h5, fun i hi => ?_⟩
    have hi' : i < R.length := by simpa using hi
    refine ⟨rowC R[i], ⟨by simp, by simp [rowC], fun x hx => h.rng R[i] (List.getElem_mem hi') x (by simpa using hx)⟩, fun j u hj => ?_⟩
    have hjl : j < 256 := by have := (List.getElem?_eq_some_iff.1 hj).1; rwa [rowC_len] at this
    have := h6 (i * 256 + j) u (by rw [get_el rowC_len R i j hi' hjl]; exact hj)
    rw [Nat.add_assoc]; exact this
  · obtain ⟨base, cap, h1, h2, h3, h4⟩ := h.hT
    refine ⟨base, cap, h1, h2, h3, fun h0 => ?_⟩
    obtain ⟨b, off, h5, h6⟩ := h4 h0
    refine ⟨b, off, h5, fun i hi => ⟨[.int .i64 tags[i]], ⟨rfl, h.okT _ (List.getElem_mem hi)⟩, fun j u hj => ?_⟩⟩
    have hj0 : j = 0 := by have := (List.getElem?_eq_some_iff.1 hj).1; simpa using this
    subst hj0
    rw [Nat.mul_one, Nat.add_zero]
    refine h6 i u ?_
    rw [show tags.flatMap kit.intC = tags.map (.int .i64) from kit.flat1 tags, List.getElem?_map, List.getElem?_eq_getElem hi]
    exact hj
/-- the automaton that is meant -/
def aut (R : List Row) (tags : List Int) : Aut := ⟨R.length, fun i b => (R.getD i row0).toList.getD b 0, fun i => tags.getD i 0⟩
def chk (R : List Row) (tags : List Int) : Int := checkF (R.map Vector.toList) tags
theorem rows_getD (R : List Row) {i : Nat} (hi : i < R.length) : (R.map Vector.toList).getD i [] = (R.getD i row0).toList := by
  rw [List.getD_eq_getElem?_getD, List.getElem?_map, List.getD_eq_getElem?_getD, List.getElem?_eq_getElem hi]; rfl
theorem chk_ok {R : List Row} {tags : List Int} (h : chk R tags = 0) : (aut R tags).Ok ∧ tags.length = R.length := by
  obtain ⟨h1, h2, h3, h4⟩ := check_ok h
  rw [List.length_map] at h1 h2 h3 h4
  refine ⟨⟨h2, h1, fun i hi b hb => ?_, fun i hi => ?_⟩, h3⟩
  · have := (h4 i hi).2.2
    rw [rows_getD R hi] at this
    refine this _ ?_
    show (R.getD i row0).toList.getD b 0 ∈ _
    rw [List.getD_eq_getElem?_getD (l := (R.getD i row0).toList), List.getElem?_eq_getElem (by simpa using hb)]
    exact List.getElem_mem _
  · have := h4 i hi
    exact ⟨this.1, this.2.1⟩
theorem ok_chk {R : List Row} {tags : List Int} (h : (aut R tags).Ok) (hl : tags.length = R.length) : chk R tags = 0 := by
  have h1 : R.length ≤ 200 := h.le
  have h2 : 0 < R.length := h.pos
  unfold chk checkF
  rw [List.length_map, if_neg (by omega), if_neg (by omega), if_neg]
  simp only [List.any_eq_true, List.mem_range, not_exists, not_and]
  intro i hi
  have ht := h.tags i hi
  have hs := h.step i hi
  rw [rows_getD R hi]
  simp only [rowBad, Bool.or_eq_true, decide_eq_true_eq, List.any_eq_true, not_or, not_exists, not_and]
  refine ⟨⟨?_, ?_⟩, fun t ht' => ?_⟩
  · show ¬ tags.getD i 0 < -1
    have : -1 ≤ tags.getD i 0 := ht.1
    omega
  · have : tags.getD i 0 < 20 := ht.2
    omega
  · obtain ⟨b, hb, rfl⟩ := List.mem_iff_getElem.1 ht'
    have hb' : b < 256 := by simpa using hb
    have := hs b hb'
    have e : (aut R tags).d i b = (R.getD i row0).toList[b] := by
      show (R.getD i row0).toList.getD b 0 = _
      rw [List.getD_eq_getElem?_getD (l := (R.getD i row0).toList), List.getElem?_eq_getElem hb]; rfl
    rw [e] at this
    have e2 : (aut R tags).n = R.length := rfl
    omega
theorem goes_aut {R : List Row} {tags : List Int} (hA : (aut R tags).Ok) : ∀ (s : List UInt8) (q : Int), St (aut R tags) q → goes (R.map Vector.toList) q s = go (aut R tags) q s
  | [], _, _ => rfl
  | b :: s, q, hq => by
    unfold goes go
    have hst := st_dt hA hq b.toNat_lt
    by_cases c : q < 0
    · rw [if_pos c]
      have e : dt (aut R tags) q b.toNat = q := by unfold dt; rw [if_pos c]; unfold St at hq; omega
      rw [e]
      have := goes_aut hA s q hq
      rw [← this, goes_neg _ s q c]
    · rw [if_neg c]
      have hq' : q.toNat < R.length := by have := hq.2; show q.toNat < R.length; have e : (aut R tags).n = R.length := rfl; omega
      rw [rows_getD R hq']
      have e : dt (aut R tags) q b.toNat = (R.getD q.toNat row0).toList.getD b.toNat 0 := by unfold dt; rw [if_neg c]; rfl
      rw [e] at hst ⊢
      exact goes_aut hA s _ hst
theorem st_zero {A : Aut} (hA : A.Ok) : St A 0 := ⟨by decide, by have := hA.pos; show (0 : Int) < A.n; omega⟩
/-- what dfa.Tag says -/
def tagF (R : List Row) (tags : List Int) (s : List UInt8) : Int × Int := if chk R tags = 0 then (tg (aut R tags) (go (aut R tags) 0 s), 0) else (0, chk R tags)
end Go.Proofs.Ytknojgjdaafboaa.eng

/- SmT -/
namespace Go.Proofs.Ytknojgjdaafboaa.eng
open Go.RowKit kit mix dfaL smallL
theorem aut_tag {R : List Row} {tags : List Int} {i : Nat} (h : i < tags.length) : (aut R tags).tag i = tags[i] := by
  show tags.getD i 0 = _
  rw [List.getD_eq_getElem?_getD, List.getElem?_eq_getElem h]; rfl
theorem aut_d {R : List Row} {tags : List Int} {i b : Nat} (h : i < R.length) (hb : b < 256) : (aut R tags).d i b = (R[i])[b] := by
  show (R.getD i row0).toList.getD b 0 = _
  rw [List.getD_eq_getElem?_getD (l := R), List.getElem?_eq_getElem h, Option.getD_some, List.getD_eq_getElem?_getD, List.getElem?_eq_getElem (by simpa using hb), Option.getD_some, Vector.getElem_toList]
/-- a row's block, one cell being written over -/
theorem row_set (r : Row) {b : Nat} (hb : b < 256) (x : Int) : (rowC r).toArray.setIfInBounds b (.int .i16 x) = (rowC (r.set b x)).toArray := by
  unfold rowC
  rw [Vector.toList_set, List.map_set]; simp
theorem TL_storeV {P : Program} {n : Nat} {W : Base} {fr : Fr} {L : List Own} {Q : Exit → Act → World → Prop} {ops : Array Oper} {rest : List Oper} {ty : TypeId} {pos : String} {after : Array Edge} {t : TypeId} {p x : Operand} {i g b : Nat} {r : Row} {T : TypeId} {agg : Bool} {z : Int} [hT : TyC P t agg 1] (hi : L[i]? = some (blkO g (rowC r).toArray T)) (hp : ev fr p = some (.pointer (some ⟨g, 0 + b, none⟩))) (hx : ev fr x = some (.int .i16 z)) (hb : b < 256)
    (h : TL P n W ops Q rest fr (L.set i (blkO g (rowC (r.set b z)).toArray T))) : TL P n W ops Q (⟨none, .store t p x, ty, pos, after, none⟩ :: rest) fr L := by
  rw [Nat.zero_add] at hp
  refine TL_store1 hi hp hx rfl rfl ?_ ?_
  · rw [List.size_toArray, rowC_len]; exact Nat.blt_eq ▸ hb
  · rw [row_set r hb]; exact h
theorem zero_row : (List.replicate 256 (Value.int .i16 0)).toArray = (rowC (Vector.replicate 256 0)).toArray := by
  unfold rowC
  rw [Vector.toList_replicate, List.map_replicate]
def rowV (r : Row) : Value := .agg (rowC r).toArray
end Go.Proofs.Ytknojgjdaafboaa.eng

/- DfX -/
namespace Go.Proofs.Ytknojgjdaafboaa.eng
open Go.RowKit kit mix classL rexL placesL dfaP smallL
set_option maxRecDepth 100000 in
theorem eq_set (x y : C4) (w : World) : (Op.equalIn 10000 76 (.agg (clsL x).toArray) (.agg (clsL y).toArray)).run Try.prog w = .ok (decide (x = y)) w := by
  show (Op.equalIn 10000 76 (.agg #[v64 x.a, v64 x.b, v64 x.c, v64 x.d]) (.agg #[v64 y.a, v64 y.b, v64 y.c, v64 y.d])).run Try.prog w = _
  have e : (Op.equalIn 10000 76 (.agg #[v64 x.a, v64 x.b, v64 x.c, v64 x.d]) (.agg #[v64 y.a, v64 y.b, v64 y.c, v64 y.d])).run Try.prog w = .ok ((n64 x.a == n64 y.a) && ((n64 x.b == n64 y.b) && ((n64 x.c == n64 y.c) && (n64 x.d == n64 y.d)))) w := by
    unfold v64
    rw [run_equalIn_array (P := Try.prog) w 9999 (n := 4) (e := 29) _ _ rfl rfl]
    have h1 : Try.prog.cellsOf 29 = 1 := rfl
    simp [Op.eqItems, go_sem, List.range_succ_eq_map, h1]
    by_cases e1 : n64 x.a = n64 y.a <;> by_cases e2 : n64 x.b = n64 y.b <;> by_cases e3 : n64 x.c = n64 y.c <;> by_cases e4 : n64 x.d = n64 y.d <;> simp [e1, e2, e3, e4]
  rw [e]
  congr 1
  by_cases h : x = y
  · subst h; simp
  · rw [decide_eq_false h]
    by_cases e1 : n64 x.a = n64 y.a <;> by_cases e2 : n64 x.b = n64 y.b <;> by_cases e3 : n64 x.c = n64 y.c <;> by_cases e4 : n64 x.d = n64 y.d <;> simp [e1, e2, e3, e4]
    exact h (C4.ext' (n64_inj e1) (n64_inj e2) (n64_inj e3) (n64_inj e4))
theorem build_set0 (w : World) : (Instr.build 76 (#[] : Array (Nat × Value))).run Try.prog w = .ok (.agg (clsL C4.zero).toArray) w := by kernel_rfl
theorem wrap16d {x : Int} (h0 : -32768 ≤ x) (h1 : x ≤ 32767) : IntKind.i16.wrap x = x := by
  simp only [IntKind.wrap, IntKind.bits, IntKind.signed]
  simp
  omega
theorem row_oneA (r : Row) : (rowC r).toArray.toList.all Value.oneCell' = true := List.all_eq_true.2 fun u hu => row_one [r] u (by simpa using hu)
def rowSp (m : MS) (vc vr vf vfol vl ve rows : Value) (g gm n : Nat) (d : DM) : Spec (Value × Value) :=
  ⟨fun _ => True, fun _ => rowV (rowP m n d).1, fun x => dmL vc vr vf vfol vl ve rows g gm x.1 x.2 (rowP m n d).2⟩
theorem to_step (p : PS) (all : C4) (b i : Nat) : toTo p all b (i + 1) = if all.mem i = true ∧ (p.classes.getD i C4.zero).mem b = true then (toTo p all b i).bit i else toTo p all b i := rfl
theorem rowTo_step (p : PS) (all : C4) (f b : Nat) (r : Row) (d : DM) : rowTo p all (f + 1) b r d = if 200 < (cellF p all b r d).2.S.length + 1 then cellF p all b r d else rowTo p all f (b + 1) (cellF p all b r d).1 (cellF p all b r d).2 := rfl
theorem cellF_0 {p : PS} {all : C4} {b : Nat} {r : Row} {d : DM} (hb : b < 256) (h : toF p all b = C4.zero) : cellF p all b r d = (r.set b (-1), d) := by unfold cellF; rw [if_pos h, dif_pos hb]
theorem cellF_1 {p : PS} {all : C4} {b : Nat} {r : Row} {d : DM} (hb : b < 256) (h : toF p all b ≠ C4.zero) : cellF p all b r d = ((r.set b (-1)).set b ((stateF p d (toF p all b)).1 : Int), (stateF p d (toF p all b)).2) := by unfold cellF; rw [if_neg h, dif_pos hb]
set_option maxRecDepth 100000 in
set_option maxHeartbeats 8000000 in
theorem dfaRow_calls (m : MS) (vc vr vf vfol vl ve rows : Value) (d : DM) (g gm n : Nat) (vs vt : Value) (w0 : World) (hp : PosR w0 (.agg #[vc, vr, vf, vfol, vl, ve]) m) (h : MOkP m) (hd : DOk m.ps d) (hd2 : d.S.length + 1 ≤ 200) (hn : n ≤ d.S.length) (w : World) (B : Base) (ho : Old w0 B)
    (hm : Mem B (dmL vc vr vf vfol vl ve rows g gm vs vt d) w) :
    Calls Try.prog 16 #[.pointer (some ⟨g, 0, none⟩), .int .i64 (n : Int)] w (MeetsB (rowSp m vc vr vf vfol vl ve rows g gm n d) B) := by
  have hnx := fun w' (hg : Gr w0 w') h1 h2 => dfaNext_calls m vc vr vf vfol vl ve vs (.map (some gm)) rows vt d.S g n w' (hp.gr hg) h h1 h2 hn
  have hst := fun d' s vs' vt' h1 h2 w' B' ho' hm' => dfaState_calls m vc vr vf vfol vl ve rows d' s g gm vs' vt' w0 hp h h1 h2 w' B' ho' hm'
  obtain ⟨_, _, _, _, _, _, he, h1, -⟩ := hp
  simp only [Value.agg.injEq, Array.mk.injEq, List.cons.injEq, and_true] at he
  obtain ⟨rfl, rfl, rfl, rfl, rfl, rfl⟩ := he
  have hmf := h.few
  clear h
  obtain ⟨ac, cc, rfl, -, -, hrc⟩ := h1
  unfold rowSp rowP
  generalize nextF m d.S n = all at *
  obtain ⟨p, fi, em⟩ := m
  dsimp only at *
  unfold dmL at hm
  have hB0 := build_set0
  refine enterB hm (args := [.pointer (some ⟨g, 0, none⟩), .int .i64 (n : Int)]) (n := 60) Try.func16 rfl rfl rfl ?_
  clear hm
  refine T_seq (T_region (TL_new rfl fun g4 => ?_))
  conv => arg 8; simp only [zA, zB, zC, zD, zE, zF, zG, zH, zI, rowS, ret, id_eq]
  rw [zero_row]
  repeat (first
    | refine qv rfl (qp rfl) rfl rfl ?_ | refine TL_nil ?_ | refine T_seq ?_ | refine T_region ?_ | refine qcT rfl ?_ | refine qcF rfl ?_ | refine T_skip ?_
    | refine T_exit ?_ | refine T_ret ?_ | refine T_block ?_ | refine E_then ?_ | refine E_thenX ?_ | refine E_thenR ?_ | refine E_blockN ?_
    | refine E_blockR ?_ | refine E_blockX ?_ | refine E_blockO rfl ?_ | refine qs rfl rfl rfl rfl rfl rfl ?_
    | ((try refine qg rfl rfl rfl ?_); first | refine qv rfl (qp rfl) rfl rfl ?_ | refine qv rfl (qlen Und.eq rfl) rfl rfl ?_ | refine qv rfl (qfld FldC.fld rfl rfl) rfl rfl ?_ | refine qv rfl (rr_nilc rfl) rfl rfl ?_ | refine qv rfl (rr_lss rfl rfl (qT (by omega))) rfl rfl ?_ | refine qv rfl (rr_lss rfl rfl (qF (by omega))) rfl rfl ?_ | refine qv rfl (rr_gtr rfl rfl (qT (by omega))) rfl rfl ?_ | refine qv rfl (rr_gtr rfl rfl (qF (by omega))) rfl rfl ?_ | refine qv rfl (rr_add64 rfl rfl (by omega) (by omega) rfl) rfl rfl ?_))
  refine TL_call (he2 EntersC.en rfl rfl rfl) (fun w hm => hnx w (ho.mem hm) (hm.get (i := 0) rfl) (Sl.of_own (hm.get (i := 1) rfl))) rfl rfl rfl ?_
  intro _ _
  conv => arg 8; simp only [zA, zB, zC, zD, zE, zF, zG, zH, zI, rowS, ret, id_eq]
  clear hnx
  repeat (first
    | refine qv rfl (qp rfl) rfl rfl ?_ | refine TL_nil ?_ | refine T_seq ?_ | refine T_region ?_ | refine qcT rfl ?_ | refine qcF rfl ?_ | refine T_skip ?_
    | refine T_exit ?_ | refine T_ret ?_ | refine T_block ?_ | refine E_then ?_ | refine E_thenX ?_ | refine E_thenR ?_ | refine E_blockN ?_
    | refine E_blockR ?_ | refine E_blockX ?_ | refine E_blockO rfl ?_ | refine qs rfl rfl rfl rfl rfl rfl ?_
    | ((try refine qg rfl rfl rfl ?_); first | refine qv rfl (qp rfl) rfl rfl ?_ | refine qv rfl (qlen Und.eq rfl) rfl rfl ?_ | refine qv rfl (qfld FldC.fld rfl rfl) rfl rfl ?_ | refine qv rfl (rr_nilc rfl) rfl rfl ?_ | refine qv rfl (rr_lss rfl rfl (qT (by omega))) rfl rfl ?_ | refine qv rfl (rr_lss rfl rfl (qF (by omega))) rfl rfl ?_ | refine qv rfl (rr_gtr rfl rfl (qT (by omega))) rfl rfl ?_ | refine qv rfl (rr_gtr rfl rfl (qF (by omega))) rfl rfl ?_ | refine qv rfl (rr_add64 rfl rfl (by omega) (by omega) rfl) rfl rfl ?_))
  refine TL_new rfl fun g5 => ?_
  conv => arg 8; simp only [zA, zB, zC, zD, zE, zF, zG, zH, zI, rowS, ret, id_eq]
  refine TL_storeB (i := 5) (cs' := (clsL all).toArray) rfl rfl rfl rfl rfl rfl ?_
  conv => arg 8; simp only [zA, zB, zC, zD, zE, zF, zG, zH, zI, rowS, ret, id_eq]
  repeat (first
    | refine qv rfl (qp rfl) rfl rfl ?_ | refine TL_nil ?_ | refine T_seq ?_ | refine T_region ?_ | refine qcT rfl ?_ | refine qcF rfl ?_ | refine T_skip ?_
    | refine T_exit ?_ | refine T_ret ?_ | refine T_block ?_ | refine E_then ?_ | refine E_thenX ?_ | refine E_thenR ?_ | refine E_blockN ?_
    | refine E_blockR ?_ | refine E_blockX ?_ | refine E_blockO rfl ?_ | refine qs rfl rfl rfl rfl rfl rfl ?_
    | ((try refine qg rfl rfl rfl ?_); first | refine qv rfl (qp rfl) rfl rfl ?_ | refine qv rfl (qlen Und.eq rfl) rfl rfl ?_ | refine qv rfl (qfld FldC.fld rfl rfl) rfl rfl ?_ | refine qv rfl (rr_nilc rfl) rfl rfl ?_ | refine qv rfl (rr_lss rfl rfl (qT (by omega))) rfl rfl ?_ | refine qv rfl (rr_lss rfl rfl (qF (by omega))) rfl rfl ?_ | refine qv rfl (rr_gtr rfl rfl (qT (by omega))) rfl rfl ?_ | refine qv rfl (rr_gtr rfl rfl (qF (by omega))) rfl rfl ?_ | refine qv rfl (rr_add64 rfl rfl (by omega) (by omega) rfl) rfl rfl ?_))
  refine TL_new rfl fun g6 => ?_
  conv => arg 8; simp only [zA, zB, zC, zD, zE, zF, zG, zH, zI, rowS, ret, id_eq]
  rw [zero_row]
  repeat (first
    | refine qv rfl (qp rfl) rfl rfl ?_ | refine TL_nil ?_ | refine T_seq ?_ | refine T_region ?_ | refine qcT rfl ?_ | refine qcF rfl ?_ | refine T_skip ?_
    | refine T_exit ?_ | refine T_ret ?_ | refine T_block ?_ | refine E_then ?_ | refine E_thenX ?_ | refine E_thenR ?_ | refine E_blockN ?_
    | refine E_blockR ?_ | refine E_blockX ?_ | refine E_blockO rfl ?_ | refine qs rfl rfl rfl rfl rfl rfl ?_
    | ((try refine qg rfl rfl rfl ?_); first | refine qv rfl (qp rfl) rfl rfl ?_ | refine qv rfl (qlen Und.eq rfl) rfl rfl ?_ | refine qv rfl (qfld FldC.fld rfl rfl) rfl rfl ?_ | refine qv rfl (rr_nilc rfl) rfl rfl ?_ | refine qv rfl (rr_lss rfl rfl (qT (by omega))) rfl rfl ?_ | refine qv rfl (rr_lss rfl rfl (qF (by omega))) rfl rfl ?_ | refine qv rfl (rr_gtr rfl rfl (qT (by omega))) rfl rfl ?_ | refine qv rfl (rr_gtr rfl rfl (qF (by omega))) rfl rfl ?_ | refine qv rfl (rr_add64 rfl rfl (by omega) (by omega) rfl) rfl rfl ?_))
  clear hn
  generalize hfin : rowTo p all 256 0 (Vector.replicate 256 0) d = fin
  refine T_loop (ι := Nat × Row × DM × Value × Value) (fun (b, r, d, _, _) => b ≤ 256 ∧ DOk p d ∧ d.S.length + 1 ≤ 200 ∧ rowTo p all (256 - b) b r d = fin) (fun (b, _, _, _, _) => [(0, .pointer (some ⟨g, 0, none⟩)), (4, .pointer (some ⟨g4, 0, none⟩)), (5, .pointer (some ⟨g5, 0, none⟩)), (6, .pointer (some ⟨g6, 0, none⟩)), (14, .int .i64 (b : Int))])
    (fun (_, r, d, vs, vt) => [blkO g (dmC (.slice ac p.classes.length cc) vr vf vfol vl ve vs (.map (some gm)) rows vt) 63, setsO vs d.S, numO gm d.S, intR vt d.tags, blkO g4 (rowC (Vector.replicate 256 0)).toArray 66, blkO g5 (clsL all).toArray 76, blkO g6 (rowC r).toArray 66]) (fun (b, _, _, _, _) => 256 - b) (0, Vector.replicate 256 0, d, vs, vt) ⟨Nat.zero_le _, hd, hd2, hfin⟩ (by repeat' (first | exact True.intro | refine And.intro rfl ?_)) rfl ?_
  clear hd hd2 hfin d vs vt
  rintro ⟨b, r, d, vs, vt⟩ ⟨i1, i2, i3, i4⟩
  dsimp only at i1 i2 i3 i4 ⊢
  by_cases c1 : b < 256
  · rw [show 256 - b = (256 - (b + 1)) + 1 by omega, rowTo_step] at i4
    repeat (first
      | refine qv rfl (qp rfl) rfl rfl ?_ | refine TL_nil ?_ | refine T_seq ?_ | refine T_region ?_ | refine qcT rfl ?_ | refine qcF rfl ?_ | refine T_skip ?_
      | refine T_exit ?_ | refine T_ret ?_ | refine T_block ?_ | refine E_then ?_ | refine E_thenX ?_ | refine E_thenR ?_ | refine E_blockN ?_
      | refine E_blockR ?_ | refine E_blockX ?_ | refine E_blockO rfl ?_ | refine qs rfl rfl rfl rfl rfl rfl ?_
      | ((try refine qg rfl rfl rfl ?_); first | refine qv rfl (qp rfl) rfl rfl ?_ | refine qv rfl (qlen Und.eq rfl) rfl rfl ?_ | refine qv rfl (qfld FldC.fld rfl rfl) rfl rfl ?_ | refine qv rfl (rr_nilc rfl) rfl rfl ?_ | refine qv rfl (rr_lss rfl rfl (qT (by omega))) rfl rfl ?_ | refine qv rfl (rr_lss rfl rfl (qF (by omega))) rfl rfl ?_ | refine qv rfl (rr_gtr rfl rfl (qT (by omega))) rfl rfl ?_ | refine qv rfl (rr_gtr rfl rfl (qF (by omega))) rfl rfl ?_ | refine qv rfl (rr_add64 rfl rfl (by omega) (by omega) rfl) rfl rfl ?_))
    refine TL_new rfl fun g8 => ?_
    conv => arg 8; simp only [zA, zB, zC, zD, zE, zF, zG, zH, zI, rowS, ret, id_eq]
    repeat (first
      | refine qv rfl (qp rfl) rfl rfl ?_ | refine TL_nil ?_ | refine T_seq ?_ | refine T_region ?_ | refine qcT rfl ?_ | refine qcF rfl ?_ | refine T_skip ?_
      | refine T_exit ?_ | refine T_ret ?_ | refine T_block ?_ | refine E_then ?_ | refine E_thenX ?_ | refine E_thenR ?_ | refine E_blockN ?_
      | refine E_blockR ?_ | refine E_blockX ?_ | refine E_blockO rfl ?_ | refine qs rfl rfl rfl rfl rfl rfl ?_
      | ((try refine qg rfl rfl rfl ?_); first | refine qv rfl (qp rfl) rfl rfl ?_ | refine qv rfl (rr_nilc rfl) rfl rfl ?_ | refine qv rfl (rr_load1 (v := .slice ac p.classes.length cc) TyC.ty rfl (at_blk (i := 0) rfl rfl)) rfl rfl ?_ | refine qv rfl (qlen Und.eq rfl) rfl rfl ?_ | refine qv rfl (qfld FldC.fld rfl rfl) rfl rfl ?_ | refine qv rfl (rr_nilc rfl) rfl rfl ?_ | refine qv rfl (rr_lss rfl rfl (qT (by omega))) rfl rfl ?_ | refine qv rfl (rr_lss rfl rfl (qF (by omega))) rfl rfl ?_ | refine qv rfl (rr_gtr rfl rfl (qT (by omega))) rfl rfl ?_ | refine qv rfl (rr_gtr rfl rfl (qF (by omega))) rfl rfl ?_ | refine qv rfl (rr_add64 rfl rfl (by omega) (by omega) rfl) rfl rfl ?_))
    refine T_loop (ι := Nat) (fun k => k ≤ p.classes.length) (fun k => [(0, .pointer (some ⟨g, 0, none⟩)), (4, .pointer (some ⟨g4, 0, none⟩)), (5, .pointer (some ⟨g5, 0, none⟩)), (6, .pointer (some ⟨g6, 0, none⟩)), (7, .int .i64 (b : Int)), (8, .pointer (some ⟨g8, 0, none⟩)), (14, .int .i64 (b : Int)), (21, .slice ac p.classes.length cc), (22, .int .i64 p.classes.length), (23, .int .i64 (k : Int))])
      (fun k => [blkO g (dmC (.slice ac p.classes.length cc) vr vf vfol vl ve vs (.map (some gm)) rows vt) 63, setsO vs d.S, numO gm d.S, intR vt d.tags, blkO g4 (rowC (Vector.replicate 256 0)).toArray 66, blkO g5 (clsL all).toArray 76, blkO g6 (rowC r).toArray 66, blkO g8 (clsL (toTo p all b k)).toArray 76]) (fun k => p.classes.length - k) 0 (Nat.zero_le _) (by repeat' (first | exact True.intro | refine And.intro rfl ?_)) rfl ?_
    intro k hk
    by_cases c2 : k < p.classes.length
    · have hts := to_step p all b k
      have hgd : p.classes.getD k C4.zero = p.classes[k] := by rw [List.getD_eq_getElem?_getD, List.getElem?_eq_getElem c2]; rfl
      rw [hgd] at hts
      obtain ⟨bc, offc, rfl, hrcd⟩ := hrc (by omega)
      have hatc := fun (L : List Own) => at_elO (L := L) (f := clsL) (c := 4) (fun _ => rfl) ho hrcd c2
      clear hrcd hrc hgd
      generalize p.classes[k] = c at *
      have hatc' : ∀ (L : List Own) (j : Nat) (u : Value), (clsL c)[j]? = some u → At B L ⟨bc, offc + k * 4 + j, none⟩ u := hatc
      clear hatc
      have hhas := fun w => setHas_calls all k (by omega) w
      have hchs := fun w => has_calls c b c1 w
      generalize toTo p all b k = tz at *
      generalize all.mem k = b1 at *
      generalize c.mem b = b2 at *
      have hu8 : IntKind.u8.wrap (b : Int) = (b : Int) := by rw [IntKind.wrap_u8]; omega
      repeat (first
        | refine qv rfl (qp rfl) rfl rfl ?_ | refine TL_nil ?_ | refine T_seq ?_ | refine T_region ?_ | refine qcT rfl ?_ | refine qcF rfl ?_ | refine T_skip ?_
        | refine T_exit ?_ | refine T_ret ?_ | refine T_block ?_ | refine E_then ?_ | refine E_thenX ?_ | refine E_thenR ?_ | refine E_blockN ?_
        | refine E_blockR ?_ | refine E_blockX ?_ | refine E_blockO rfl ?_ | refine qs rfl rfl rfl rfl rfl rfl ?_
        | ((try refine qg rfl rfl rfl ?_); first | refine qv rfl (qp rfl) rfl rfl ?_ | refine qv rfl (rr_idxc Und.eq TyC.ty rfl rfl c2) rfl rfl ?_ | refine qv rfl (rr_loadN (cs := clsL c) TyC.ty rfl rfl (hatc' _)) rfl rfl ?_ | refine qv rfl (qlen Und.eq rfl) rfl rfl ?_ | refine qv rfl (qfld FldC.fld rfl rfl) rfl rfl ?_ | refine qv rfl (rr_nilc rfl) rfl rfl ?_ | refine qv rfl (rr_lss rfl rfl (qT (by omega))) rfl rfl ?_ | refine qv rfl (rr_lss rfl rfl (qF (by omega))) rfl rfl ?_ | refine qv rfl (rr_gtr rfl rfl (qT (by omega))) rfl rfl ?_ | refine qv rfl (rr_gtr rfl rfl (qF (by omega))) rfl rfl ?_ | refine qv rfl (rr_add64 rfl rfl (by omega) (by omega) rfl) rfl rfl ?_))
      refine TL_new rfl fun g10 => ?_
      conv => arg 8; simp only [zA, zB, zC, zD, zE, zF, zG, zH, zI, rowS, ret, id_eq]
      repeat (first
        | refine qv rfl (qp rfl) rfl rfl ?_ | refine TL_nil ?_ | refine T_seq ?_ | refine T_region ?_ | refine qcT rfl ?_ | refine qcF rfl ?_ | refine T_skip ?_
        | refine T_exit ?_ | refine T_ret ?_ | refine T_block ?_ | refine E_then ?_ | refine E_thenX ?_ | refine E_thenR ?_ | refine E_blockN ?_
        | refine E_blockR ?_ | refine E_blockX ?_ | refine E_blockO rfl ?_ | refine qs rfl rfl rfl rfl rfl rfl ?_
        | ((try refine qg rfl rfl rfl ?_); first | refine qv rfl (qp rfl) rfl rfl ?_ | refine qv rfl (qlen Und.eq rfl) rfl rfl ?_ | refine qv rfl (qfld FldC.fld rfl rfl) rfl rfl ?_ | refine qv rfl (rr_nilc rfl) rfl rfl ?_ | refine qv rfl (rr_lss rfl rfl (qT (by omega))) rfl rfl ?_ | refine qv rfl (rr_lss rfl rfl (qF (by omega))) rfl rfl ?_ | refine qv rfl (rr_gtr rfl rfl (qT (by omega))) rfl rfl ?_ | refine qv rfl (rr_gtr rfl rfl (qF (by omega))) rfl rfl ?_ | refine qv rfl (rr_add64 rfl rfl (by omega) (by omega) rfl) rfl rfl ?_))
      refine TL_storeB (i := 8) (cs' := (clsL c).toArray) rfl rfl rfl rfl rfl rfl ?_
      conv => arg 8; simp only [zA, zB, zC, zD, zE, zF, zG, zH, zI, rowS, ret, id_eq]
      repeat (first
        | refine qv rfl (qp rfl) rfl rfl ?_ | refine TL_nil ?_ | refine T_seq ?_ | refine T_region ?_ | refine qcT rfl ?_ | refine qcF rfl ?_ | refine T_skip ?_
        | refine T_exit ?_ | refine T_ret ?_ | refine T_block ?_ | refine E_then ?_ | refine E_thenX ?_ | refine E_thenR ?_ | refine E_blockN ?_
        | refine E_blockR ?_ | refine E_blockX ?_ | refine E_blockO rfl ?_ | refine qs rfl rfl rfl rfl rfl rfl ?_
        | ((try refine qg rfl rfl rfl ?_); first | refine qv rfl (qp rfl) rfl rfl ?_ | refine qv rfl (rr_loadB (i := 5) TyC.ty rfl rfl rfl) rfl rfl ?_ | refine qv rfl (qlen Und.eq rfl) rfl rfl ?_ | refine qv rfl (qfld FldC.fld rfl rfl) rfl rfl ?_ | refine qv rfl (rr_nilc rfl) rfl rfl ?_ | refine qv rfl (rr_lss rfl rfl (qT (by omega))) rfl rfl ?_ | refine qv rfl (rr_lss rfl rfl (qF (by omega))) rfl rfl ?_ | refine qv rfl (rr_gtr rfl rfl (qT (by omega))) rfl rfl ?_ | refine qv rfl (rr_gtr rfl rfl (qF (by omega))) rfl rfl ?_ | refine qv rfl (rr_add64 rfl rfl (by omega) (by omega) rfl) rfl rfl ?_))
      refine TL_call (he2 EntersC.en rfl rfl rfl) (fun w hm => hhas w) rfl rfl rfl ?_
      intro _ _
      conv => arg 8; simp only [zA, zB, zC, zD, zE, zF, zG, zH, zI, rowS, ret, id_eq]
      by_cases q1 : b1 = true
      · subst q1
        repeat (first
          | refine qv rfl (qp rfl) rfl rfl ?_ | refine TL_nil ?_ | refine T_seq ?_ | refine T_region ?_ | refine qcT rfl ?_ | refine qcF rfl ?_ | refine T_skip ?_
          | refine T_exit ?_ | refine T_ret ?_ | refine T_block ?_ | refine E_then ?_ | refine E_thenX ?_ | refine E_thenR ?_ | refine E_blockN ?_
          | refine E_blockR ?_ | refine E_blockX ?_ | refine E_blockO rfl ?_ | refine qs rfl rfl rfl rfl rfl rfl ?_
          | ((try refine qg rfl rfl rfl ?_); first | refine qv rfl (qp rfl) rfl rfl ?_ | refine qv rfl (rr_loadB (i := 8) TyC.ty rfl rfl rfl) rfl rfl ?_ | refine qv rfl (rr_conv Und.eq Und.eq rfl hu8) rfl rfl ?_ | refine qv rfl (qlen Und.eq rfl) rfl rfl ?_ | refine qv rfl (qfld FldC.fld rfl rfl) rfl rfl ?_ | refine qv rfl (rr_nilc rfl) rfl rfl ?_ | refine qv rfl (rr_lss rfl rfl (qT (by omega))) rfl rfl ?_ | refine qv rfl (rr_lss rfl rfl (qF (by omega))) rfl rfl ?_ | refine qv rfl (rr_gtr rfl rfl (qT (by omega))) rfl rfl ?_ | refine qv rfl (rr_gtr rfl rfl (qF (by omega))) rfl rfl ?_ | refine qv rfl (rr_add64 rfl rfl (by omega) (by omega) rfl) rfl rfl ?_))
        refine TL_gcall (he2 EntersC.en rfl rfl rfl) (fun w hm => hchs w) rfl rfl rfl rfl rfl ?_
        intro _ _
        conv => arg 8; simp only [zA, zB, zC, zD, zE, zF, zG, zH, zI, rowS, ret, id_eq]
        by_cases q2 : b2 = true
        · subst q2
          rw [if_pos ⟨rfl, rfl⟩] at hts
          repeat (first
            | refine qv rfl (qp rfl) rfl rfl ?_ | refine TL_nil ?_ | refine T_seq ?_ | refine T_region ?_ | refine qcT rfl ?_ | refine qcF rfl ?_ | refine T_skip ?_
            | refine T_exit ?_ | refine T_ret ?_ | refine T_block ?_ | refine E_then ?_ | refine E_thenX ?_ | refine E_thenR ?_ | refine E_blockN ?_
            | refine E_blockR ?_ | refine E_blockX ?_ | refine E_blockO rfl ?_ | refine qs rfl rfl rfl rfl rfl rfl ?_
            | ((try refine qg rfl rfl rfl ?_); first | refine qv rfl (qp rfl) rfl rfl ?_ | refine qv rfl (qlen Und.eq rfl) rfl rfl ?_ | refine qv rfl (qfld FldC.fld rfl rfl) rfl rfl ?_ | refine qv rfl (rr_nilc rfl) rfl rfl ?_ | refine qv rfl (rr_lss rfl rfl (qT (by omega))) rfl rfl ?_ | refine qv rfl (rr_lss rfl rfl (qF (by omega))) rfl rfl ?_ | refine qv rfl (rr_gtr rfl rfl (qT (by omega))) rfl rfl ?_ | refine qv rfl (rr_gtr rfl rfl (qF (by omega))) rfl rfl ?_ | refine qv rfl (rr_add64 rfl rfl (by omega) (by omega) rfl) rfl rfl ?_))
          refine TL_callB [7] [0, 1, 2, 3, 4, 5, 6] (by decide) rfl rfl (he2 EntersC.en rfl rfl rfl) (fun w hm hb => setPut_calls tz k (by omega) g8 w _ hb) rfl rfl rfl ?_
          intro _ _
          conv => arg 8; simp only [zA, zB, zC, zD, zE, zF, zG, zH, zI, rowS, ret, id_eq]
          repeat (first
            | refine qv rfl (qp rfl) rfl rfl ?_ | refine TL_nil ?_ | refine T_seq ?_ | refine T_region ?_ | refine qcT rfl ?_ | refine qcF rfl ?_ | refine T_skip ?_
            | refine T_exit ?_ | refine T_ret ?_ | refine T_block ?_ | refine E_then ?_ | refine E_thenX ?_ | refine E_thenR ?_ | refine E_blockN ?_
            | refine E_blockR ?_ | refine E_blockX ?_ | refine E_blockO rfl ?_ | refine qs rfl rfl rfl rfl rfl rfl ?_
            | ((try refine qg rfl rfl rfl ?_); first | refine qv rfl (qp rfl) rfl rfl ?_ | refine qv rfl (qlen Und.eq rfl) rfl rfl ?_ | refine qv rfl (qfld FldC.fld rfl rfl) rfl rfl ?_ | refine qv rfl (rr_nilc rfl) rfl rfl ?_ | refine qv rfl (rr_lss rfl rfl (qT (by omega))) rfl rfl ?_ | refine qv rfl (rr_lss rfl rfl (qF (by omega))) rfl rfl ?_ | refine qv rfl (rr_gtr rfl rfl (qT (by omega))) rfl rfl ?_ | refine qv rfl (rr_gtr rfl rfl (qF (by omega))) rfl rfl ?_ | refine qv rfl (rr_add64 rfl rfl (by omega) (by omega) rfl) rfl rfl ?_))
          exact E_round (k + 1) (by omega) (by show p.classes.length - (k + 1) < p.classes.length - k; omega) (by repeat' (first | exact True.intro | refine And.intro rfl ?_)) (by rw [hts])
        · rw [if_neg (fun h => q2 h.2)] at hts
          obtain rfl := Bool.eq_false_iff.2 q2
          repeat (first
            | refine qv rfl (qp rfl) rfl rfl ?_ | refine TL_nil ?_ | refine T_seq ?_ | refine T_region ?_ | refine qcT rfl ?_ | refine qcF rfl ?_ | refine T_skip ?_
            | refine T_exit ?_ | refine T_ret ?_ | refine T_block ?_ | refine E_then ?_ | refine E_thenX ?_ | refine E_thenR ?_ | refine E_blockN ?_
            | refine E_blockR ?_ | refine E_blockX ?_ | refine E_blockO rfl ?_ | refine qs rfl rfl rfl rfl rfl rfl ?_
            | ((try refine qg rfl rfl rfl ?_); first | refine qv rfl (qp rfl) rfl rfl ?_ | refine qv rfl (qlen Und.eq rfl) rfl rfl ?_ | refine qv rfl (qfld FldC.fld rfl rfl) rfl rfl ?_ | refine qv rfl (rr_nilc rfl) rfl rfl ?_ | refine qv rfl (rr_lss rfl rfl (qT (by omega))) rfl rfl ?_ | refine qv rfl (rr_lss rfl rfl (qF (by omega))) rfl rfl ?_ | refine qv rfl (rr_gtr rfl rfl (qT (by omega))) rfl rfl ?_ | refine qv rfl (rr_gtr rfl rfl (qF (by omega))) rfl rfl ?_ | refine qv rfl (rr_add64 rfl rfl (by omega) (by omega) rfl) rfl rfl ?_))
          refine E_pick [0, 1, 2, 3, 4, 5, 6, 7] (by decide) rfl ?_
          exact E_round (k + 1) (by omega) (by show p.classes.length - (k + 1) < p.classes.length - k; omega) (by repeat' (first | exact True.intro | refine And.intro rfl ?_)) (by rw [hts]; rfl)
      · rw [if_neg (fun h => q1 h.1)] at hts
        obtain rfl := Bool.eq_false_iff.2 q1
        repeat (first
          | refine qv rfl (qp rfl) rfl rfl ?_ | refine TL_nil ?_ | refine T_seq ?_ | refine T_region ?_ | refine qcT rfl ?_ | refine qcF rfl ?_ | refine T_skip ?_
          | refine T_exit ?_ | refine T_ret ?_ | refine T_block ?_ | refine E_then ?_ | refine E_thenX ?_ | refine E_thenR ?_ | refine E_blockN ?_
          | refine E_blockR ?_ | refine E_blockX ?_ | refine E_blockO rfl ?_ | refine qs rfl rfl rfl rfl rfl rfl ?_
          | ((try refine qg rfl rfl rfl ?_); first | refine qv rfl (qp rfl) rfl rfl ?_ | refine qv rfl (qlen Und.eq rfl) rfl rfl ?_ | refine qv rfl (qfld FldC.fld rfl rfl) rfl rfl ?_ | refine qv rfl (rr_nilc rfl) rfl rfl ?_ | refine qv rfl (rr_lss rfl rfl (qT (by omega))) rfl rfl ?_ | refine qv rfl (rr_lss rfl rfl (qF (by omega))) rfl rfl ?_ | refine qv rfl (rr_gtr rfl rfl (qT (by omega))) rfl rfl ?_ | refine qv rfl (rr_gtr rfl rfl (qF (by omega))) rfl rfl ?_ | refine qv rfl (rr_add64 rfl rfl (by omega) (by omega) rfl) rfl rfl ?_))
        refine E_pick [0, 1, 2, 3, 4, 5, 6, 7] (by decide) rfl ?_
        exact E_round (k + 1) (by omega) (by show p.classes.length - (k + 1) < p.classes.length - k; omega) (by repeat' (first | exact True.intro | refine And.intro rfl ?_)) (by rw [hts]; rfl)
    · obtain rfl : k = p.classes.length := by omega
      have hF : toTo p all b p.classes.length = toF p all b := rfl
      rw [hF]
      have hc0 := cellF_0 (p := p) (all := all) (r := r) (d := d) c1
      have hc1 := cellF_1 (p := p) (all := all) (r := r) (d := d) c1
      have heq := eq_set (toF p all b) C4.zero
      clear hF hrc
      generalize toF p all b = tz at *
      repeat (first
        | refine qv rfl (qp rfl) rfl rfl ?_ | refine TL_nil ?_ | refine T_seq ?_ | refine T_region ?_ | refine qcT rfl ?_ | refine qcF rfl ?_ | refine T_skip ?_
        | refine T_exit ?_ | refine T_ret ?_ | refine T_block ?_ | refine E_then ?_ | refine E_thenX ?_ | refine E_thenR ?_ | refine E_blockN ?_
        | refine E_blockR ?_ | refine E_blockX ?_ | refine E_blockO rfl ?_ | refine qs rfl rfl rfl rfl rfl rfl ?_
        | ((try refine qg rfl rfl rfl ?_); first | refine qv rfl (qp rfl) rfl rfl ?_ | refine qv rfl (rr_aidx1 Und.eq TyC.ty rfl rfl c1) rfl rfl ?_ | refine qv rfl (qlen Und.eq rfl) rfl rfl ?_ | refine qv rfl (qfld FldC.fld rfl rfl) rfl rfl ?_ | refine qv rfl (rr_nilc rfl) rfl rfl ?_ | refine qv rfl (rr_lss rfl rfl (qT (by omega))) rfl rfl ?_ | refine qv rfl (rr_lss rfl rfl (qF (by omega))) rfl rfl ?_ | refine qv rfl (rr_gtr rfl rfl (qT (by omega))) rfl rfl ?_ | refine qv rfl (rr_gtr rfl rfl (qF (by omega))) rfl rfl ?_ | refine qv rfl (rr_add64 rfl rfl (by omega) (by omega) rfl) rfl rfl ?_))
      refine TL_storeV (i := 6) rfl rfl rfl c1 ?_
      conv => arg 8; simp only [zA, zB, zC, zD, zE, zF, zG, zH, zI, rowS, ret, id_eq]
      by_cases q1 : tz = C4.zero
      · rw [decide_eq_true q1] at heq
        rw [hc0 q1, if_neg (by show ¬ 200 < d.S.length + 1; omega)] at i4
        refine TL_know (i := 1) rfl row_slm fun hrow => ?_
        obtain ⟨ab, cs, rfl, hmS, -⟩ := hrow
        repeat (first
          | refine qv rfl (qp rfl) rfl rfl ?_ | refine TL_nil ?_ | refine T_seq ?_ | refine T_region ?_ | refine qcT rfl ?_ | refine qcF rfl ?_ | refine T_skip ?_
          | refine T_exit ?_ | refine T_ret ?_ | refine T_block ?_ | refine E_then ?_ | refine E_thenX ?_ | refine E_thenR ?_ | refine E_blockN ?_
          | refine E_blockR ?_ | refine E_blockX ?_ | refine E_blockO rfl ?_ | refine qs rfl rfl rfl rfl rfl rfl ?_
          | ((try refine qg rfl rfl rfl ?_); first | refine qv rfl (qp rfl) rfl rfl ?_ | refine qv rfl (rr_loadB (i := 7) TyC.ty rfl rfl rfl) rfl rfl ?_ | refine qv rfl (rr_build rfl hB0) rfl rfl ?_ | refine qv rfl (rr_aggne rfl rfl (by kernel_rfl) heq rfl) rfl rfl ?_ | refine qv rfl (rr_nilc rfl) rfl rfl ?_ | refine qv rfl (rr_load1 (v := .slice ab (d.S.length + 1) cs) TyC.ty rfl (at_blk (i := 0) rfl rfl)) rfl rfl ?_ | refine qv rfl (rr_gtr (b := false) rfl rfl (decide_eq_false (by omega))) rfl rfl ?_ | refine qv rfl (qlen Und.eq rfl) rfl rfl ?_ | refine qv rfl (qfld FldC.fld rfl rfl) rfl rfl ?_ | refine qv rfl (rr_nilc rfl) rfl rfl ?_ | refine qv rfl (rr_lss rfl rfl (qT (by omega))) rfl rfl ?_ | refine qv rfl (rr_lss rfl rfl (qF (by omega))) rfl rfl ?_ | refine qv rfl (rr_gtr rfl rfl (qT (by omega))) rfl rfl ?_ | refine qv rfl (rr_gtr rfl rfl (qF (by omega))) rfl rfl ?_ | refine qv rfl (rr_add64 rfl rfl (by omega) (by omega) rfl) rfl rfl ?_))
        refine E_pick [0, 1, 2, 3, 4, 5, 6] (by decide) rfl ?_
        exact E_round (b + 1, r.set b (-1), d, .slice ab (d.S.length + 1) cs, vt) ⟨by omega, i2, i3, i4⟩ (by show 256 - (b + 1) < 256 - b; omega) (by repeat' (first | exact True.intro | refine And.intro rfl ?_)) rfl
      · rw [decide_eq_false q1] at heq
        rw [hc1 q1] at i4
        obtain ⟨s1, s2, s3, s4, s5⟩ := state_ok i2 tz
        repeat (first
          | refine qv rfl (qp rfl) rfl rfl ?_ | refine TL_nil ?_ | refine T_seq ?_ | refine T_region ?_ | refine qcT rfl ?_ | refine qcF rfl ?_ | refine T_skip ?_
          | refine T_exit ?_ | refine T_ret ?_ | refine T_block ?_ | refine E_then ?_ | refine E_thenX ?_ | refine E_thenR ?_ | refine E_blockN ?_
          | refine E_blockR ?_ | refine E_blockX ?_ | refine E_blockO rfl ?_ | refine qs rfl rfl rfl rfl rfl rfl ?_
          | ((try refine qg rfl rfl rfl ?_); first | refine qv rfl (qp rfl) rfl rfl ?_ | refine qv rfl (rr_loadB (i := 7) TyC.ty rfl rfl rfl) rfl rfl ?_ | refine qv rfl (rr_build rfl hB0) rfl rfl ?_ | refine qv rfl (rr_aggne rfl rfl (by kernel_rfl) heq rfl) rfl rfl ?_ | refine qv rfl (qlen Und.eq rfl) rfl rfl ?_ | refine qv rfl (qfld FldC.fld rfl rfl) rfl rfl ?_ | refine qv rfl (rr_nilc rfl) rfl rfl ?_ | refine qv rfl (rr_lss rfl rfl (qT (by omega))) rfl rfl ?_ | refine qv rfl (rr_lss rfl rfl (qF (by omega))) rfl rfl ?_ | refine qv rfl (rr_gtr rfl rfl (qT (by omega))) rfl rfl ?_ | refine qv rfl (rr_gtr rfl rfl (qF (by omega))) rfl rfl ?_ | refine qv rfl (rr_add64 rfl rfl (by omega) (by omega) rfl) rfl rfl ?_))
        refine TL_callB [0, 1, 2, 3] [4, 5, 6, 7] (by decide) rfl rfl (he2 EntersC.en rfl rfl rfl) (fun w hm hb => hst d tz vs vt (by omega) (by have := i2.tags; omega) w _ (ho.on hm (by simp [dmL])) hb) rfl rfl rfl ?_
        rintro ⟨vs', vt'⟩ _
        conv => arg 8; simp only [zA, zB, zC, zD, zE, zF, zG, zH, zI, rowS, ret, id_eq, stSp, dmL]
        conv => arg 7; simp only [stSp]
        generalize stateF p d tz = R at *
        obtain ⟨q, d'⟩ := R
        dsimp only at i4 s1 s2 s3 s4 s5 ⊢
        have hq : q ≤ 200 := by omega
        refine TL_know (i := 5) rfl row_slm fun hrow => ?_
        obtain ⟨ab, cs, rfl, hmS, -⟩ := hrow
        repeat (first
          | refine qv rfl (qp rfl) rfl rfl ?_ | refine TL_nil ?_ | refine T_seq ?_ | refine T_region ?_ | refine qcT rfl ?_ | refine qcF rfl ?_ | refine T_skip ?_
          | refine T_exit ?_ | refine T_ret ?_ | refine T_block ?_ | refine E_then ?_ | refine E_thenX ?_ | refine E_thenR ?_ | refine E_blockN ?_
          | refine E_blockR ?_ | refine E_blockX ?_ | refine E_blockO rfl ?_ | refine qs rfl rfl rfl rfl rfl rfl ?_
          | ((try refine qg rfl rfl rfl ?_); first | refine qv rfl (qp rfl) rfl rfl ?_ | refine qv rfl (rr_conv Und.eq Und.eq rfl (wrap16d (by omega) (by omega))) rfl rfl ?_ | refine qv rfl (rr_aidx1 Und.eq TyC.ty rfl rfl c1) rfl rfl ?_ | refine qv rfl (qlen Und.eq rfl) rfl rfl ?_ | refine qv rfl (qfld FldC.fld rfl rfl) rfl rfl ?_ | refine qv rfl (rr_nilc rfl) rfl rfl ?_ | refine qv rfl (rr_lss rfl rfl (qT (by omega))) rfl rfl ?_ | refine qv rfl (rr_lss rfl rfl (qF (by omega))) rfl rfl ?_ | refine qv rfl (rr_gtr rfl rfl (qT (by omega))) rfl rfl ?_ | refine qv rfl (rr_gtr rfl rfl (qF (by omega))) rfl rfl ?_ | refine qv rfl (rr_add64 rfl rfl (by omega) (by omega) rfl) rfl rfl ?_))
        refine TL_storeV (i := 2) rfl rfl rfl c1 ?_
        conv => arg 8; simp only [zA, zB, zC, zD, zE, zF, zG, zH, zI, rowS, ret, id_eq]
        generalize (r.set b (-1)).set b (q : Int) = r' at *
        by_cases q2 : 200 < d'.S.length + 1
        · rw [if_pos q2] at i4
          subst i4
          repeat (first
            | refine qv rfl (qp rfl) rfl rfl ?_ | refine TL_nil ?_ | refine T_seq ?_ | refine T_region ?_ | refine qcT rfl ?_ | refine qcF rfl ?_ | refine T_skip ?_
            | refine T_exit ?_ | refine T_ret ?_ | refine T_block ?_ | refine E_then ?_ | refine E_thenX ?_ | refine E_thenR ?_ | refine E_blockN ?_
            | refine E_blockR ?_ | refine E_blockX ?_ | refine E_blockO rfl ?_ | refine qs rfl rfl rfl rfl rfl rfl ?_
            | ((try refine qg rfl rfl rfl ?_); first | refine qv rfl (qp rfl) rfl rfl ?_ | refine qv rfl (rr_nilc rfl) rfl rfl ?_ | refine qv rfl (rr_load1 (v := .slice ab (d'.S.length + 1) cs) TyC.ty rfl (at_blk (i := 4) rfl rfl)) rfl rfl ?_ | refine qv rfl (rr_gtr (b := true) rfl rfl (decide_eq_true (by omega))) rfl rfl ?_ | refine qv rfl (rr_loadB (i := 2) TyC.ty rfl rfl (by rw [List.size_toArray, rowC_len])) rfl rfl ?_ | refine qv rfl (qlen Und.eq rfl) rfl rfl ?_ | refine qv rfl (qfld FldC.fld rfl rfl) rfl rfl ?_ | refine qv rfl (rr_nilc rfl) rfl rfl ?_ | refine qv rfl (rr_lss rfl rfl (qT (by omega))) rfl rfl ?_ | refine qv rfl (rr_lss rfl rfl (qF (by omega))) rfl rfl ?_ | refine qv rfl (rr_gtr rfl rfl (qT (by omega))) rfl rfl ?_ | refine qv rfl (rr_gtr rfl rfl (qF (by omega))) rfl rfl ?_ | refine qv rfl (rr_add64 rfl rfl (by omega) (by omega) rfl) rfl rfl ?_))
          refine TL_storeB (i := 0) (cs' := (rowC r').toArray) rfl rfl rfl (by rw [List.size_toArray, rowC_len]) (row_oneA r') (by rw [List.size_toArray, rowC_len]) ?_
          conv => arg 8; simp only [zA, zB, zC, zD, zE, zF, zG, zH, zI, rowS, ret, id_eq]
          repeat (first
            | refine qv rfl (qp rfl) rfl rfl ?_ | refine TL_nil ?_ | refine T_seq ?_ | refine T_region ?_ | refine qcT rfl ?_ | refine qcF rfl ?_ | refine T_skip ?_
            | refine T_exit ?_ | refine T_ret ?_ | refine T_block ?_ | refine E_then ?_ | refine E_thenX ?_ | refine E_thenR ?_ | refine E_blockN ?_
            | refine E_blockR ?_ | refine E_blockX ?_ | refine E_blockO rfl ?_ | refine qs rfl rfl rfl rfl rfl rfl ?_
            | ((try refine qg rfl rfl rfl ?_); first | refine qv rfl (qp rfl) rfl rfl ?_ | refine qv rfl (qlen Und.eq rfl) rfl rfl ?_ | refine qv rfl (qfld FldC.fld rfl rfl) rfl rfl ?_ | refine qv rfl (rr_nilc rfl) rfl rfl ?_ | refine qv rfl (rr_lss rfl rfl (qT (by omega))) rfl rfl ?_ | refine qv rfl (rr_lss rfl rfl (qF (by omega))) rfl rfl ?_ | refine qv rfl (rr_gtr rfl rfl (qT (by omega))) rfl rfl ?_ | refine qv rfl (rr_gtr rfl rfl (qF (by omega))) rfl rfl ?_ | refine qv rfl (rr_add64 rfl rfl (by omega) (by omega) rfl) rfl rfl ?_))
          exact E_retc1 (i := 0) rfl rfl rfl (by rw [List.size_toArray, rowC_len]) fun w hm => hm.meetsB (S := ⟨fun (_ : Value × Value) => True, fun _ => rowV r', fun x => dmL (.slice ac p.classes.length cc) vr vf vfol vl ve rows g gm x.1 x.2 d'⟩) (.slice ab (d'.S.length + 1) cs, vt') trivial [4, 5, 6, 7] (by decide) rfl
        · rw [if_neg q2] at i4
          repeat (first
            | refine qv rfl (qp rfl) rfl rfl ?_ | refine TL_nil ?_ | refine T_seq ?_ | refine T_region ?_ | refine qcT rfl ?_ | refine qcF rfl ?_ | refine T_skip ?_
            | refine T_exit ?_ | refine T_ret ?_ | refine T_block ?_ | refine E_then ?_ | refine E_thenX ?_ | refine E_thenR ?_ | refine E_blockN ?_
            | refine E_blockR ?_ | refine E_blockX ?_ | refine E_blockO rfl ?_ | refine qs rfl rfl rfl rfl rfl rfl ?_
            | ((try refine qg rfl rfl rfl ?_); first | refine qv rfl (qp rfl) rfl rfl ?_ | refine qv rfl (rr_nilc rfl) rfl rfl ?_ | refine qv rfl (rr_load1 (v := .slice ab (d'.S.length + 1) cs) TyC.ty rfl (at_blk (i := 4) rfl rfl)) rfl rfl ?_ | refine qv rfl (rr_gtr (b := false) rfl rfl (decide_eq_false (by omega))) rfl rfl ?_ | refine qv rfl (qlen Und.eq rfl) rfl rfl ?_ | refine qv rfl (qfld FldC.fld rfl rfl) rfl rfl ?_ | refine qv rfl (rr_nilc rfl) rfl rfl ?_ | refine qv rfl (rr_lss rfl rfl (qT (by omega))) rfl rfl ?_ | refine qv rfl (rr_lss rfl rfl (qF (by omega))) rfl rfl ?_ | refine qv rfl (rr_gtr rfl rfl (qT (by omega))) rfl rfl ?_ | refine qv rfl (rr_gtr rfl rfl (qF (by omega))) rfl rfl ?_ | refine qv rfl (rr_add64 rfl rfl (by omega) (by omega) rfl) rfl rfl ?_))
          refine E_pick [4, 5, 6, 7, 0, 1, 2] (by decide) rfl ?_
          exact E_round (b + 1, r', d', .slice ab (d'.S.length + 1) cs, vt') ⟨by omega, s1, by show d'.S.length + 1 ≤ 200; omega, i4⟩ (by show 256 - (b + 1) < 256 - b; omega) (by repeat' (first | exact True.intro | refine And.intro rfl ?_)) rfl
  · obtain rfl : b = 256 := by omega
    have i4 : (r, d) = fin := i4
    subst i4
    repeat (first
      | refine qv rfl (qp rfl) rfl rfl ?_ | refine TL_nil ?_ | refine T_seq ?_ | refine T_region ?_ | refine qcT rfl ?_ | refine qcF rfl ?_ | refine T_skip ?_
      | refine T_exit ?_ | refine T_ret ?_ | refine T_block ?_ | refine E_then ?_ | refine E_thenX ?_ | refine E_thenR ?_ | refine E_blockN ?_
      | refine E_blockR ?_ | refine E_blockX ?_ | refine E_blockO rfl ?_ | refine qs rfl rfl rfl rfl rfl rfl ?_
      | ((try refine qg rfl rfl rfl ?_); first | refine qv rfl (qp rfl) rfl rfl ?_ | refine qv rfl (rr_loadB (i := 6) TyC.ty rfl rfl (by rw [List.size_toArray, rowC_len])) rfl rfl ?_ | refine qv rfl (qlen Und.eq rfl) rfl rfl ?_ | refine qv rfl (qfld FldC.fld rfl rfl) rfl rfl ?_ | refine qv rfl (rr_nilc rfl) rfl rfl ?_ | refine qv rfl (rr_lss rfl rfl (qT (by omega))) rfl rfl ?_ | refine qv rfl (rr_lss rfl rfl (qF (by omega))) rfl rfl ?_ | refine qv rfl (rr_gtr rfl rfl (qT (by omega))) rfl rfl ?_ | refine qv rfl (rr_gtr rfl rfl (qF (by omega))) rfl rfl ?_ | refine qv rfl (rr_add64 rfl rfl (by omega) (by omega) rfl) rfl rfl ?_))
    refine TL_storeB (i := 4) (cs' := (rowC r).toArray) rfl rfl rfl (by rw [List.size_toArray, rowC_len]) (row_oneA r) (by rw [List.size_toArray, rowC_len]) ?_
    conv => arg 8; simp only [zA, zB, zC, zD, zE, zF, zG, zH, zI, rowS, ret, id_eq]
    repeat (first
      | refine qv rfl (qp rfl) rfl rfl ?_ | refine TL_nil ?_ | refine T_seq ?_ | refine T_region ?_ | refine qcT rfl ?_ | refine qcF rfl ?_ | refine T_skip ?_
      | refine T_exit ?_ | refine T_ret ?_ | refine T_block ?_ | refine E_then ?_ | refine E_thenX ?_ | refine E_thenR ?_ | refine E_blockN ?_
      | refine E_blockR ?_ | refine E_blockX ?_ | refine E_blockO rfl ?_ | refine qs rfl rfl rfl rfl rfl rfl ?_
      | ((try refine qg rfl rfl rfl ?_); first | refine qv rfl (qp rfl) rfl rfl ?_ | refine qv rfl (qlen Und.eq rfl) rfl rfl ?_ | refine qv rfl (qfld FldC.fld rfl rfl) rfl rfl ?_ | refine qv rfl (rr_nilc rfl) rfl rfl ?_ | refine qv rfl (rr_lss rfl rfl (qT (by omega))) rfl rfl ?_ | refine qv rfl (rr_lss rfl rfl (qF (by omega))) rfl rfl ?_ | refine qv rfl (rr_gtr rfl rfl (qT (by omega))) rfl rfl ?_ | refine qv rfl (rr_gtr rfl rfl (qF (by omega))) rfl rfl ?_ | refine qv rfl (rr_add64 rfl rfl (by omega) (by omega) rfl) rfl rfl ?_))
    exact E_retc1 (i := 4) rfl rfl rfl (by rw [List.size_toArray, rowC_len]) fun w hm => hm.meetsB (S := ⟨fun (_ : Value × Value) => True, fun _ => rowV r, fun x => dmL (.slice ac p.classes.length cc) vr vf vfol vl ve rows g gm x.1 x.2 d⟩) (vs, vt) trivial [0, 1, 2, 3] (by decide) rfl
end Go.Proofs.Ytknojgjdaafboaa.eng

/- DfM -/
namespace Go.Proofs.Ytknojgjdaafboaa.eng
open Go.RowKit kit mix classL rexL placesL dfaP smallL
/-- what Make answers -/
def outD (m : MS) : List Row × List Int × Int := match makeD m with
  | some (R, d) => (R, d.tags, 0)
  | none => ([], [], 8)
def mkdSp (m : MS) : Spec (Value × Value) := ⟨fun _ => True, fun x => .tuple #[dfaV x.1 x.2, .int .i64 (outD m).2.2], fun x => [rowO 66 256 x.1 (outD m).1.length ((outD m).1.flatMap rowC), intR x.2 (outD m).2.1]⟩
theorem outD_0 {m : MS} {R : List Row} {d : DM} (h : makeD m = some (R, d)) : outD m = (R, d.tags, 0) := by unfold outD; rw [h]
theorem outD_8 {m : MS} (h : makeD m = none) : outD m = ([], [], 8) := by unfold outD; rw [h]
theorem make_step (m : MS) (f n : Nat) (R : List Row) (d : DM) : makeTo m (f + 1) n R d = if n < d.S.length + 1 then (if 200 < (rowP m n d).2.S.length + 1 then none else makeTo m f (n + 1) (R ++ [(rowP m n d).1]) (rowP m n d).2) else some (R, d) := rfl
theorem build_dfaz (w : World) : (Instr.build 26 (#[] : Array (Nat × Value))).run Try.prog w = .ok (.agg #[.slice none 0 0, .slice none 0 0]) w := by kernel_rfl
theorem build_dm (vc vr vf vfol vl ve : Value) (g gm : Nat) (w : World) : (Instr.build 63 #[(0, .agg #[vc, vr, vf, vfol, vl, ve]), (1, .slice (some ⟨g, 0, none⟩) 1 1), (2, .map (some gm))]).run Try.prog w = .ok (.agg (dmC vc vr vf vfol vl ve (.slice (some ⟨g, 0, none⟩) 1 1) (.map (some gm)) (.slice none 0 0) (.slice none 0 0))) w := by
  unfold dmC; go_simp
theorem row_set1 {g : Nat} {w : World} (h : (blkO g (madeCells #[Value.int .u64 0, Value.int .u64 0, Value.int .u64 0, Value.int .u64 0] (1 * 4)) 76).holds w) : (setsO (.slice (some ⟨g, 0, none⟩) 1 1) []).holds w := by
  rw [madeC (k := 4) rfl (by decide)] at h
  exact ⟨rfl, .inr ⟨g, 1, _, rfl, Nat.zero_le _, h, Nat.le_refl _, by decide, rfl, rfl⟩⟩
theorem row_snocR (v : Value) (R : List Row) (r : Row) : rowO 66 256 v (R ++ [r]).length ((R ++ [r]).flatMap rowC) = rowO 66 256 v (R.length + 1) (R.flatMap rowC ++ rowC r) := by
  rw [List.length_append, List.flatMap_append]; simp
theorem dmc_at {vc vr vf vfol vl ve vs num rows tags v : Value} {j : Nat} (h : [rows, tags][j]? = some v) : (dmC vc vr vf vfol vl ve vs num rows tags)[8 + j]? = some v := by
  match j, h with
  | 0, h => exact h
  | 1, h => exact h
theorem row_lit (r : Row) : (rowC r).toArray = ([rowV r].flatMap fun v => v.cells.toList).toArray := by
  show _ = ((rowC r).toArray.toList ++ []).toArray
  simp
theorem row_litn (r : Row) : ∀ v ∈ [rowV r], v.cells.size = 256 := by
  intro v hv
  rw [List.mem_singleton.1 hv]
  show (rowC r).toArray.size = 256
  rw [List.size_toArray, rowC_len]
set_option maxRecDepth 100000 in
set_option maxHeartbeats 8000000 in
theorem dfaMake_calls (v : Value) (m : MS) (w : World) (hp : PosR w v m) (h : MOkP m) :
    Calls Try.prog 9 #[v] w (Meets (mkdSp m) w) := by
  have hck := fun w' (hg : Gr w w') => posCheck_calls v m w' (hp.gr hg) h
  obtain ⟨vc, vr, vf, vfol, vl, ve, rfl, h1, h2, h3, h4, h5, h6⟩ := id hp
  have hrw := fun rows d g gm n vs vt hd hd2 hn w' B ho hm => dfaRow_calls m vc vr vf vfol vl ve rows d g gm n vs vt w hp h hd hd2 hn w' B ho hm
  clear h1 h2 h3 h4 h5 hp
  have hms := h.some
  have hmm := h.most
  clear h
  obtain ⟨ae, ce, rfl, -, hme, hre⟩ := h6
  unfold maxLen at hme
  have hbz := build_dfaz
  refine enter (args := [.agg #[vc, vr, vf, vfol, vl, .slice ae m.empty.length ce]]) (n := 78) Try.func9 rfl rfl rfl ?_
  refine T_seq (T_region (TL_box rfl rfl rfl fun g1 => TL_new rfl fun g2 => ?_))
  conv => arg 8; simp only [zA, zB, zC, zD, zE, zF, zG, zH, zI, rowS, ret, id_eq]
  repeat (first
    | refine qv rfl (qp rfl) rfl rfl ?_ | refine TL_nil ?_ | refine T_seq ?_ | refine T_region ?_ | refine qcT rfl ?_ | refine qcF rfl ?_ | refine T_skip ?_
    | refine T_exit ?_ | refine T_ret ?_ | refine T_block ?_ | refine E_then ?_ | refine E_thenX ?_ | refine E_thenR ?_ | refine E_blockN ?_
    | refine E_blockR ?_ | refine E_blockX ?_ | refine E_blockO rfl ?_ | refine qv rfl (rr_loadB (i := 0) TyC.ty rfl rfl rfl) rfl rfl ?_
    | refine qv rfl (qlen Und.eq rfl) rfl rfl ?_ | refine qv rfl (qfld FldC.fld rfl rfl) rfl rfl ?_ | refine qv rfl (rr_nilc rfl) rfl rfl ?_
    | refine qv rfl (rr_lss rfl rfl (qT (by omega))) rfl rfl ?_ | refine qv rfl (rr_lss rfl rfl (qF (by omega))) rfl rfl ?_
    | refine qv rfl (rr_gtr rfl rfl (qT (by omega))) rfl rfl ?_ | refine qv rfl (rr_gtr rfl rfl (qF (by omega))) rfl rfl ?_
    | refine qv rfl (rr_geq rfl rfl (qT (by omega))) rfl rfl ?_ | refine qv rfl (rr_geq rfl rfl (qF (by omega))) rfl rfl ?_
    | refine qv rfl (rr_neq rfl rfl (qT (by omega))) rfl rfl ?_ | refine qv rfl (rr_neq rfl rfl (qF (by omega))) rfl rfl ?_
    | refine qv rfl (rr_add64 rfl rfl (by omega) (by omega) rfl) rfl rfl ?_ | refine qv rfl (rr_sub64 rfl rfl (by omega) (by omega) rfl) rfl rfl ?_)
  refine TL_call (he1 EntersC.en rfl rfl) (fun w hm => hck _ hm.below) rfl rfl rfl ?_
  intro _ _
  conv => arg 8; simp only [zA, zB, zC, zD, zE, zF, zG, zH, zI, rowS, ret, id_eq]
  clear hck
  repeat (first
    | refine qv rfl (qp rfl) rfl rfl ?_ | refine TL_nil ?_ | refine T_seq ?_ | refine T_region ?_ | refine qcT rfl ?_ | refine qcF rfl ?_ | refine T_skip ?_
    | refine T_exit ?_ | refine T_ret ?_ | refine T_block ?_ | refine E_then ?_ | refine E_thenX ?_ | refine E_thenR ?_ | refine E_blockN ?_
    | refine E_blockR ?_ | refine E_blockX ?_ | refine E_blockO rfl ?_ | refine qv rfl (rr_neq (b := false) rfl rfl (decide_eq_false (by simp))) rfl rfl ?_
    | refine qv rfl (qlen Und.eq rfl) rfl rfl ?_ | refine qv rfl (qfld FldC.fld rfl rfl) rfl rfl ?_ | refine qv rfl (rr_nilc rfl) rfl rfl ?_
    | refine qv rfl (rr_lss rfl rfl (qT (by omega))) rfl rfl ?_ | refine qv rfl (rr_lss rfl rfl (qF (by omega))) rfl rfl ?_
    | refine qv rfl (rr_gtr rfl rfl (qT (by omega))) rfl rfl ?_ | refine qv rfl (rr_gtr rfl rfl (qF (by omega))) rfl rfl ?_
    | refine qv rfl (rr_geq rfl rfl (qT (by omega))) rfl rfl ?_ | refine qv rfl (rr_geq rfl rfl (qF (by omega))) rfl rfl ?_
    | refine qv rfl (rr_neq rfl rfl (qT (by omega))) rfl rfl ?_ | refine qv rfl (rr_neq rfl rfl (qF (by omega))) rfl rfl ?_
    | refine qv rfl (rr_add64 rfl rfl (by omega) (by omega) rfl) rfl rfl ?_ | refine qv rfl (rr_sub64 rfl rfl (by omega) (by omega) rfl) rfl rfl ?_)
  (repeat refine T_seq ?_)
  refine T_midq (ι := Nat × Nat × Nat) (fun _ => True) (fun (_, _, g5) => [(1, .pointer (some ⟨g1, 0, none⟩)), (2, .pointer (some ⟨g2, 0, none⟩)), (5, .pointer (some ⟨g5, 0, none⟩))])
    (fun (gs, gm, g5) => [blkO g1 #[vc, vr, vf, vfol, vl, .slice ae m.empty.length ce] 44, blkO g2 #[.slice none 0 0, .slice none 0 0] 26, blkO g5 (dmC vc vr vf vfol vl (.slice ae m.empty.length ce) (.slice (some ⟨gs, 0, none⟩) 1 1) (.map (some gm)) (.slice none 0 0) (.slice none 0 0)) 63, setsO (.slice (some ⟨gs, 0, none⟩) 1 1) [], numO gm []]) ?_ ?_
  · refine T_ord ([blkO g1 #[vc, vr, vf, vfol, vl, .slice ae m.empty.length ce] 44]) (.calm 0 (.two 1 (.one 2 (.calm 3 (.one 4 (.calm 5 (.done))))) 2 (.one 1 (.calm 3 (.one 4 (.calm 5 (.done))))))) (sub_pick [0] (by decide) rfl) (by kernel_rfl) (by kernel_rfl) (by intro c a d v w h; cases d <;> exact h) ?_
    repeat (first
      | ((first | refine TW_plain rfl rfl ?_ | refine TW_gmet rfl rfl rfl rfl ?_); first | refine TN_val (qp rfl) rfl rfl ?_ | refine TN_val (rr_loadB (i := 0) TyC.ty rfl rfl rfl) rfl rfl ?_ | refine TN_val (qlen Und.eq rfl) rfl rfl ?_ | refine TN_val (qfld FldC.fld rfl rfl) rfl rfl ?_ | refine TN_val (rr_nilc rfl) rfl rfl ?_ | refine TN_val (rr_lss rfl rfl (qT (by omega))) rfl rfl ?_ | refine TN_val (rr_lss rfl rfl (qF (by omega))) rfl rfl ?_ | refine TN_val (rr_gtr rfl rfl (qT (by omega))) rfl rfl ?_ | refine TN_val (rr_gtr rfl rfl (qF (by omega))) rfl rfl ?_ | refine TN_val (rr_geq rfl rfl (qT (by omega))) rfl rfl ?_ | refine TN_val (rr_geq rfl rfl (qF (by omega))) rfl rfl ?_ | refine TN_val (rr_neq rfl rfl (qT (by omega))) rfl rfl ?_ | refine TN_val (rr_neq rfl rfl (qF (by omega))) rfl rfl ?_ | refine TN_val (rr_add64 rfl rfl (by omega) (by omega) rfl) rfl rfl ?_ | refine TN_val (rr_sub64 rfl rfl (by omega) (by omega) rfl) rfl rfl ?_)
      | refine TW_done ?_)
    refine TW_two rfl rfl ?_ ?_
    · refine TL_makeB (m := 1) (cap := 1) rfl rfl (Nat.le_refl 1) (by decide) (by decide) rfl fun gs => TW_on (sub_pick [0] (by decide) rfl) ?_
      refine TW_one rfl (TL_map setK rfl fun gm => TW_on (sub_pick [0] (by decide) rfl) ?_)
      repeat (first
        | ((first | refine TW_plain rfl rfl ?_ | refine TW_gmet rfl rfl rfl rfl ?_); first | refine TN_val (qp rfl) rfl rfl ?_ | refine TN_val (rr_build rfl (build_dm _ _ _ _ _ _ _ _)) rfl rfl ?_ | refine TN_val (qlen Und.eq rfl) rfl rfl ?_ | refine TN_val (qfld FldC.fld rfl rfl) rfl rfl ?_ | refine TN_val (rr_nilc rfl) rfl rfl ?_ | refine TN_val (rr_lss rfl rfl (qT (by omega))) rfl rfl ?_ | refine TN_val (rr_lss rfl rfl (qF (by omega))) rfl rfl ?_ | refine TN_val (rr_gtr rfl rfl (qT (by omega))) rfl rfl ?_ | refine TN_val (rr_gtr rfl rfl (qF (by omega))) rfl rfl ?_ | refine TN_val (rr_geq rfl rfl (qT (by omega))) rfl rfl ?_ | refine TN_val (rr_geq rfl rfl (qF (by omega))) rfl rfl ?_ | refine TN_val (rr_neq rfl rfl (qT (by omega))) rfl rfl ?_ | refine TN_val (rr_neq rfl rfl (qF (by omega))) rfl rfl ?_ | refine TN_val (rr_add64 rfl rfl (by omega) (by omega) rfl) rfl rfl ?_ | refine TN_val (rr_sub64 rfl rfl (by omega) (by omega) rfl) rfl rfl ?_)
        | refine TW_done ?_)
      refine TW_one rfl (TL_box rfl rfl rfl fun g5 => TW_on (sub_pick [0] (by decide) rfl) ?_)
      repeat (first
        | ((first | refine TW_plain rfl rfl ?_ | refine TW_gmet rfl rfl rfl rfl ?_); first | refine TN_val (qp rfl) rfl rfl ?_ | refine TN_val (qlen Und.eq rfl) rfl rfl ?_ | refine TN_val (qfld FldC.fld rfl rfl) rfl rfl ?_ | refine TN_val (rr_nilc rfl) rfl rfl ?_ | refine TN_val (rr_lss rfl rfl (qT (by omega))) rfl rfl ?_ | refine TN_val (rr_lss rfl rfl (qF (by omega))) rfl rfl ?_ | refine TN_val (rr_gtr rfl rfl (qT (by omega))) rfl rfl ?_ | refine TN_val (rr_gtr rfl rfl (qF (by omega))) rfl rfl ?_ | refine TN_val (rr_geq rfl rfl (qT (by omega))) rfl rfl ?_ | refine TN_val (rr_geq rfl rfl (qF (by omega))) rfl rfl ?_ | refine TN_val (rr_neq rfl rfl (qT (by omega))) rfl rfl ?_ | refine TN_val (rr_neq rfl rfl (qF (by omega))) rfl rfl ?_ | refine TN_val (rr_add64 rfl rfl (by omega) (by omega) rfl) rfl rfl ?_ | refine TN_val (rr_sub64 rfl rfl (by omega) (by omega) rfl) rfl rfl ?_)
        | refine TW_done ?_)
      refine E_reown (i := 2) (setsO (.slice (some ⟨gs, 0, none⟩) 1 1) []) rfl (fun w h => row_set1 h) (fun k h => h) ?_
      refine E_reown (i := 3) (numO gm []) rfl (fun w h => by unfold numO; rw [← mapAt1_nil]; exact h) (fun k h => h) ?_
      refine E_pick [0, 1, 4, 2, 3] (by decide) rfl ?_
      exact E_mid (gs, gm, g5) trivial (by repeat' (first | exact True.intro | refine And.intro rfl ?_)) rfl
    · refine TL_map setK rfl fun gm => TW_on (sub_pick [0] (by decide) rfl) ?_
      refine TW_one rfl (TL_makeB (m := 1) (cap := 1) rfl rfl (Nat.le_refl 1) (by decide) (by decide) rfl fun gs => TW_on (sub_pick [0] (by decide) rfl) ?_)
      repeat (first
        | ((first | refine TW_plain rfl rfl ?_ | refine TW_gmet rfl rfl rfl rfl ?_); first | refine TN_val (qp rfl) rfl rfl ?_ | refine TN_val (rr_build rfl (build_dm _ _ _ _ _ _ _ _)) rfl rfl ?_ | refine TN_val (qlen Und.eq rfl) rfl rfl ?_ | refine TN_val (qfld FldC.fld rfl rfl) rfl rfl ?_ | refine TN_val (rr_nilc rfl) rfl rfl ?_ | refine TN_val (rr_lss rfl rfl (qT (by omega))) rfl rfl ?_ | refine TN_val (rr_lss rfl rfl (qF (by omega))) rfl rfl ?_ | refine TN_val (rr_gtr rfl rfl (qT (by omega))) rfl rfl ?_ | refine TN_val (rr_gtr rfl rfl (qF (by omega))) rfl rfl ?_ | refine TN_val (rr_geq rfl rfl (qT (by omega))) rfl rfl ?_ | refine TN_val (rr_geq rfl rfl (qF (by omega))) rfl rfl ?_ | refine TN_val (rr_neq rfl rfl (qT (by omega))) rfl rfl ?_ | refine TN_val (rr_neq rfl rfl (qF (by omega))) rfl rfl ?_ | refine TN_val (rr_add64 rfl rfl (by omega) (by omega) rfl) rfl rfl ?_ | refine TN_val (rr_sub64 rfl rfl (by omega) (by omega) rfl) rfl rfl ?_)
        | refine TW_done ?_)
      refine TW_one rfl (TL_box rfl rfl rfl fun g5 => TW_on (sub_pick [0] (by decide) rfl) ?_)
      repeat (first
        | ((first | refine TW_plain rfl rfl ?_ | refine TW_gmet rfl rfl rfl rfl ?_); first | refine TN_val (qp rfl) rfl rfl ?_ | refine TN_val (qlen Und.eq rfl) rfl rfl ?_ | refine TN_val (qfld FldC.fld rfl rfl) rfl rfl ?_ | refine TN_val (rr_nilc rfl) rfl rfl ?_ | refine TN_val (rr_lss rfl rfl (qT (by omega))) rfl rfl ?_ | refine TN_val (rr_lss rfl rfl (qF (by omega))) rfl rfl ?_ | refine TN_val (rr_gtr rfl rfl (qT (by omega))) rfl rfl ?_ | refine TN_val (rr_gtr rfl rfl (qF (by omega))) rfl rfl ?_ | refine TN_val (rr_geq rfl rfl (qT (by omega))) rfl rfl ?_ | refine TN_val (rr_geq rfl rfl (qF (by omega))) rfl rfl ?_ | refine TN_val (rr_neq rfl rfl (qT (by omega))) rfl rfl ?_ | refine TN_val (rr_neq rfl rfl (qF (by omega))) rfl rfl ?_ | refine TN_val (rr_add64 rfl rfl (by omega) (by omega) rfl) rfl rfl ?_ | refine TN_val (rr_sub64 rfl rfl (by omega) (by omega) rfl) rfl rfl ?_)
        | refine TW_done ?_)
      refine E_reown (i := 3) (setsO (.slice (some ⟨gs, 0, none⟩) 1 1) []) rfl (fun w h => row_set1 h) (fun k h => h) ?_
      refine E_reown (i := 2) (numO gm []) rfl (fun w h => by unfold numO; rw [← mapAt1_nil]; exact h) (fun k h => h) ?_
      refine E_pick [0, 1, 4, 3, 2] (by decide) rfl ?_
      exact E_mid (gs, gm, g5) trivial (by repeat' (first | exact True.intro | refine And.intro rfl ?_)) rfl
  rintro ⟨gs, gm, g5⟩ _
  dsimp only
  repeat (first
    | refine qv rfl (qp rfl) rfl rfl ?_ | refine TL_nil ?_ | refine T_seq ?_ | refine T_region ?_ | refine qcT rfl ?_ | refine qcF rfl ?_ | refine T_skip ?_
    | refine T_exit ?_ | refine T_ret ?_ | refine T_block ?_ | refine E_then ?_ | refine E_thenX ?_ | refine E_thenR ?_ | refine E_blockN ?_
    | refine E_blockR ?_ | refine E_blockX ?_ | refine E_blockO rfl ?_ | refine qv rfl (qlen Und.eq rfl) rfl rfl ?_
    | refine qv rfl (qfld FldC.fld rfl rfl) rfl rfl ?_ | refine qv rfl (rr_nilc rfl) rfl rfl ?_ | refine qv rfl (rr_lss rfl rfl (qT (by omega))) rfl rfl ?_
    | refine qv rfl (rr_lss rfl rfl (qF (by omega))) rfl rfl ?_ | refine qv rfl (rr_gtr rfl rfl (qT (by omega))) rfl rfl ?_
    | refine qv rfl (rr_gtr rfl rfl (qF (by omega))) rfl rfl ?_ | refine qv rfl (rr_geq rfl rfl (qT (by omega))) rfl rfl ?_
    | refine qv rfl (rr_geq rfl rfl (qF (by omega))) rfl rfl ?_ | refine qv rfl (rr_neq rfl rfl (qT (by omega))) rfl rfl ?_
    | refine qv rfl (rr_neq rfl rfl (qF (by omega))) rfl rfl ?_ | refine qv rfl (rr_add64 rfl rfl (by omega) (by omega) rfl) rfl rfl ?_
    | refine qv rfl (rr_sub64 rfl rfl (by omega) (by omega) rfl) rfl rfl ?_)
  refine TL_litN (cs := #[.int .i64 (-1)]) [.int .i64 (-1)] rfl rfl rfl (by intro v hv; simp at hv; subst hv; rfl) rfl rfl rfl fun g20 => ?_
  conv => arg 8; simp only [zA, zB, zC, zD, zE, zF, zG, zH, zI, rowS, ret, id_eq]
  repeat (first
    | refine qv rfl (qp rfl) rfl rfl ?_ | refine TL_nil ?_ | refine T_seq ?_ | refine T_region ?_ | refine qcT rfl ?_ | refine qcF rfl ?_ | refine T_skip ?_
    | refine T_exit ?_ | refine T_ret ?_ | refine T_block ?_ | refine E_then ?_ | refine E_thenX ?_ | refine E_thenR ?_ | refine E_blockN ?_
    | refine E_blockR ?_ | refine E_blockX ?_ | refine E_blockO rfl ?_ | refine qv rfl (rr_nilc rfl) rfl rfl ?_ | refine qv rfl (qlen Und.eq rfl) rfl rfl ?_
    | refine qv rfl (qfld FldC.fld rfl rfl) rfl rfl ?_ | refine qv rfl (rr_nilc rfl) rfl rfl ?_ | refine qv rfl (rr_lss rfl rfl (qT (by omega))) rfl rfl ?_
    | refine qv rfl (rr_lss rfl rfl (qF (by omega))) rfl rfl ?_ | refine qv rfl (rr_gtr rfl rfl (qT (by omega))) rfl rfl ?_
    | refine qv rfl (rr_gtr rfl rfl (qF (by omega))) rfl rfl ?_ | refine qv rfl (rr_geq rfl rfl (qT (by omega))) rfl rfl ?_
    | refine qv rfl (rr_geq rfl rfl (qF (by omega))) rfl rfl ?_ | refine qv rfl (rr_neq rfl rfl (qT (by omega))) rfl rfl ?_
    | refine qv rfl (rr_neq rfl rfl (qF (by omega))) rfl rfl ?_ | refine qv rfl (rr_add64 rfl rfl (by omega) (by omega) rfl) rfl rfl ?_
    | refine qv rfl (rr_sub64 rfl rfl (by omega) (by omega) rfl) rfl rfl ?_)
  refine TL_store1 (i := 2) rfl rfl rfl rfl rfl rfl ?_
  conv => arg 8; simp only [zA, zB, zC, zD, zE, zF, zG, zH, zI, rowS, ret, id_eq]
  repeat (first
    | refine qv rfl (qp rfl) rfl rfl ?_ | refine TL_nil ?_ | refine T_seq ?_ | refine T_region ?_ | refine qcT rfl ?_ | refine qcF rfl ?_ | refine T_skip ?_
    | refine T_exit ?_ | refine T_ret ?_ | refine T_block ?_ | refine E_then ?_ | refine E_thenX ?_ | refine E_thenR ?_ | refine E_blockN ?_
    | refine E_blockR ?_ | refine E_blockX ?_ | refine E_blockO rfl ?_
    | refine qv rfl (rr_load1 (v := .slice ae m.empty.length ce) TyC.ty rfl (at_blk (i := 0) rfl rfl)) rfl rfl ?_
    | refine qv rfl (rr_sub64 (r := (m.empty.length : Int) - 1) rfl rfl (by omega) (by omega) rfl) rfl rfl ?_ | refine qv rfl (qlen Und.eq rfl) rfl rfl ?_
    | refine qv rfl (qfld FldC.fld rfl rfl) rfl rfl ?_ | refine qv rfl (rr_nilc rfl) rfl rfl ?_ | refine qv rfl (rr_lss rfl rfl (qT (by omega))) rfl rfl ?_
    | refine qv rfl (rr_lss rfl rfl (qF (by omega))) rfl rfl ?_ | refine qv rfl (rr_gtr rfl rfl (qT (by omega))) rfl rfl ?_
    | refine qv rfl (rr_gtr rfl rfl (qF (by omega))) rfl rfl ?_ | refine qv rfl (rr_geq rfl rfl (qT (by omega))) rfl rfl ?_
    | refine qv rfl (rr_geq rfl rfl (qF (by omega))) rfl rfl ?_ | refine qv rfl (rr_neq rfl rfl (qT (by omega))) rfl rfl ?_
    | refine qv rfl (rr_neq rfl rfl (qF (by omega))) rfl rfl ?_ | refine qv rfl (rr_add64 rfl rfl (by omega) (by omega) rfl) rfl rfl ?_
    | refine qv rfl (rr_sub64 rfl rfl (by omega) (by omega) rfl) rfl rfl ?_)
  refine T_loop (ι := Nat) (fun k => k ≤ m.empty.length) (fun k => [(1, .pointer (some ⟨g1, 0, none⟩)), (2, .pointer (some ⟨g2, 0, none⟩)), (5, .pointer (some ⟨g5, 0, none⟩)), (6, .int .i64 ((k : Int) - 1))])
    (fun k => [blkO g1 #[vc, vr, vf, vfol, vl, .slice ae m.empty.length ce] 44, blkO g2 #[.slice none 0 0, .slice none 0 0] 26, blkO g5 (dmC vc vr vf vfol vl (.slice ae m.empty.length ce) (.slice (some ⟨gs, 0, none⟩) 1 1) (.map (some gm)) (.slice none 0 0) (.slice (some ⟨g20, 0, none⟩) 1 1)) 63, setsO (.slice (some ⟨gs, 0, none⟩) 1 1) [], numO gm [], blkO g20 #[.int .i64 (firstT (m.empty.drop k) k)] 3]) (fun k => k) m.empty.length (Nat.le_refl _) (by repeat' (first | exact True.intro | refine And.intro rfl ?_)) (by rw [List.drop_eq_nil_of_le (Nat.le_refl _)]; rfl) ?_
  intro k hk
  by_cases c1 : 0 < k
  · obtain ⟨j, rfl⟩ : ∃ j, k = j + 1 := ⟨k - 1, by omega⟩
    have hj : j < m.empty.length := by omega
    obtain ⟨be, offe, rfl, hred⟩ := hre (by omega)
    have hate := fun (L : List Own) => at_el (L := L) BoE_len hred hj 0 _ rfl
    have hst : firstT (m.empty.drop j) j = if m.empty[j] = true then (j : Int) else firstT (m.empty.drop (j + 1)) ((j : Int) + 1) := by rw [List.drop_eq_getElem_cons hj, firstT]
    rw [show (((j + 1 : Nat) : Int)) = (j : Int) + 1 by omega] at *
    generalize firstT (m.empty.drop (j + 1)) ((j : Int) + 1) = t at *
    generalize m.empty[j] = b at *
    rw [show (j : Int) + 1 - 1 = (j : Int) by omega]
    have hate' : ∀ (L : List Own), At (w : Base) L ⟨be, offe + j * 1 + 0, none⟩ (.bool b) := hate
    by_cases c2 : b = true
    · subst c2
      rw [if_pos rfl] at hst
      repeat (first
        | refine qv rfl (qp rfl) rfl rfl ?_ | refine TL_nil ?_ | refine T_seq ?_ | refine T_region ?_ | refine qcT rfl ?_ | refine qcF rfl ?_ | refine T_skip ?_
        | refine T_exit ?_ | refine T_ret ?_ | refine T_block ?_ | refine E_then ?_ | refine E_thenX ?_ | refine E_thenR ?_ | refine E_blockN ?_
        | refine E_blockR ?_ | refine E_blockX ?_ | refine E_blockO rfl ?_ | refine qv rfl (rr_geq (b := true) rfl rfl (decide_eq_true (by omega))) rfl rfl ?_
        | refine qv rfl (rr_load1 (v := .slice (some ⟨be, offe, none⟩) m.empty.length ce) TyC.ty rfl (at_blk (i := 0) rfl rfl)) rfl rfl ?_
        | refine qv rfl (rr_idxc Und.eq TyC.ty rfl rfl hj) rfl rfl ?_ | refine qv rfl (rr_load1 (v := .bool true) TyC.ty rfl (hate' _)) rfl rfl ?_
        | refine qv rfl (rr_nilc rfl) rfl rfl ?_
        | refine qv rfl (rr_load1 (v := .slice (some ⟨g20, 0, none⟩) 1 1) TyC.ty rfl (at_blk (i := 2) rfl rfl)) rfl rfl ?_
        | refine qv rfl (rr_idxc (j := 0) Und.eq TyC.ty rfl rfl (by decide)) rfl rfl ?_ | refine qv rfl (qlen Und.eq rfl) rfl rfl ?_
        | refine qv rfl (qfld FldC.fld rfl rfl) rfl rfl ?_ | refine qv rfl (rr_nilc rfl) rfl rfl ?_ | refine qv rfl (rr_lss rfl rfl (qT (by omega))) rfl rfl ?_
        | refine qv rfl (rr_lss rfl rfl (qF (by omega))) rfl rfl ?_ | refine qv rfl (rr_gtr rfl rfl (qT (by omega))) rfl rfl ?_
        | refine qv rfl (rr_gtr rfl rfl (qF (by omega))) rfl rfl ?_ | refine qv rfl (rr_geq rfl rfl (qT (by omega))) rfl rfl ?_
        | refine qv rfl (rr_geq rfl rfl (qF (by omega))) rfl rfl ?_ | refine qv rfl (rr_neq rfl rfl (qT (by omega))) rfl rfl ?_
        | refine qv rfl (rr_neq rfl rfl (qF (by omega))) rfl rfl ?_ | refine qv rfl (rr_add64 rfl rfl (by omega) (by omega) rfl) rfl rfl ?_
        | refine qv rfl (rr_sub64 rfl rfl (by omega) (by omega) rfl) rfl rfl ?_)
      refine TL_store1 (i := 5) rfl rfl rfl rfl rfl rfl ?_
      conv => arg 8; simp only [zA, zB, zC, zD, zE, zF, zG, zH, zI, rowS, ret, id_eq]
      repeat (first
        | refine qv rfl (qp rfl) rfl rfl ?_ | refine TL_nil ?_ | refine T_seq ?_ | refine T_region ?_ | refine qcT rfl ?_ | refine qcF rfl ?_ | refine T_skip ?_
        | refine T_exit ?_ | refine T_ret ?_ | refine T_block ?_ | refine E_then ?_ | refine E_thenX ?_ | refine E_thenR ?_ | refine E_blockN ?_
        | refine E_blockR ?_ | refine E_blockX ?_ | refine E_blockO rfl ?_
        | refine qv rfl (rr_sub64 (r := (j : Int) - 1) rfl rfl (by omega) (by omega) rfl) rfl rfl ?_ | refine qv rfl (qlen Und.eq rfl) rfl rfl ?_
        | refine qv rfl (qfld FldC.fld rfl rfl) rfl rfl ?_ | refine qv rfl (rr_nilc rfl) rfl rfl ?_ | refine qv rfl (rr_lss rfl rfl (qT (by omega))) rfl rfl ?_
        | refine qv rfl (rr_lss rfl rfl (qF (by omega))) rfl rfl ?_ | refine qv rfl (rr_gtr rfl rfl (qT (by omega))) rfl rfl ?_
        | refine qv rfl (rr_gtr rfl rfl (qF (by omega))) rfl rfl ?_ | refine qv rfl (rr_geq rfl rfl (qT (by omega))) rfl rfl ?_
        | refine qv rfl (rr_geq rfl rfl (qF (by omega))) rfl rfl ?_ | refine qv rfl (rr_neq rfl rfl (qT (by omega))) rfl rfl ?_
        | refine qv rfl (rr_neq rfl rfl (qF (by omega))) rfl rfl ?_ | refine qv rfl (rr_add64 rfl rfl (by omega) (by omega) rfl) rfl rfl ?_
        | refine qv rfl (rr_sub64 rfl rfl (by omega) (by omega) rfl) rfl rfl ?_)
      exact E_round j (by omega) (by show j < j + 1; omega) (by repeat' (first | exact True.intro | refine And.intro rfl ?_)) (by rw [hst]; rfl)
    · rw [if_neg c2] at hst
      obtain rfl := Bool.eq_false_iff.2 c2
      repeat (first
        | refine qv rfl (qp rfl) rfl rfl ?_ | refine TL_nil ?_ | refine T_seq ?_ | refine T_region ?_ | refine qcT rfl ?_ | refine qcF rfl ?_ | refine T_skip ?_
        | refine T_exit ?_ | refine T_ret ?_ | refine T_block ?_ | refine E_then ?_ | refine E_thenX ?_ | refine E_thenR ?_ | refine E_blockN ?_
        | refine E_blockR ?_ | refine E_blockX ?_ | refine E_blockO rfl ?_ | refine qv rfl (rr_geq (b := true) rfl rfl (decide_eq_true (by omega))) rfl rfl ?_
        | refine qv rfl (rr_load1 (v := .slice (some ⟨be, offe, none⟩) m.empty.length ce) TyC.ty rfl (at_blk (i := 0) rfl rfl)) rfl rfl ?_
        | refine qv rfl (rr_idxc Und.eq TyC.ty rfl rfl hj) rfl rfl ?_ | refine qv rfl (rr_load1 (v := .bool false) TyC.ty rfl (hate' _)) rfl rfl ?_
        | refine qv rfl (rr_sub64 (r := (j : Int) - 1) rfl rfl (by omega) (by omega) rfl) rfl rfl ?_ | refine qv rfl (qlen Und.eq rfl) rfl rfl ?_
        | refine qv rfl (qfld FldC.fld rfl rfl) rfl rfl ?_ | refine qv rfl (rr_nilc rfl) rfl rfl ?_ | refine qv rfl (rr_lss rfl rfl (qT (by omega))) rfl rfl ?_
        | refine qv rfl (rr_lss rfl rfl (qF (by omega))) rfl rfl ?_ | refine qv rfl (rr_gtr rfl rfl (qT (by omega))) rfl rfl ?_
        | refine qv rfl (rr_gtr rfl rfl (qF (by omega))) rfl rfl ?_ | refine qv rfl (rr_geq rfl rfl (qT (by omega))) rfl rfl ?_
        | refine qv rfl (rr_geq rfl rfl (qF (by omega))) rfl rfl ?_ | refine qv rfl (rr_neq rfl rfl (qT (by omega))) rfl rfl ?_
        | refine qv rfl (rr_neq rfl rfl (qF (by omega))) rfl rfl ?_ | refine qv rfl (rr_add64 rfl rfl (by omega) (by omega) rfl) rfl rfl ?_
        | refine qv rfl (rr_sub64 rfl rfl (by omega) (by omega) rfl) rfl rfl ?_)
      exact E_round j (by omega) (by show j < j + 1; omega) (by repeat' (first | exact True.intro | refine And.intro rfl ?_)) (by rw [hst])
  · obtain rfl : k = 0 := by omega
    rw [show firstT (m.empty.drop 0) ((0 : Nat) : Int) = firstT m.empty 0 from rfl]
    have hfin : makeTo m (201 - 0) 0 [] ⟨[], [firstT m.empty 0]⟩ = makeD m := rfl
    generalize firstT m.empty 0 = t0 at *
    refine T_reown (i := 5) (intR (.slice (some ⟨g20, 0, none⟩) 1 1) [t0]) rfl (fun w h => one_row h) (fun k h => h) ?_
    repeat (first
      | refine qv rfl (qp rfl) rfl rfl ?_ | refine TL_nil ?_ | refine T_seq ?_ | refine T_region ?_ | refine qcT rfl ?_ | refine qcF rfl ?_ | refine T_skip ?_
      | refine T_exit ?_ | refine T_ret ?_ | refine T_block ?_ | refine E_then ?_ | refine E_thenX ?_ | refine E_thenR ?_ | refine E_blockN ?_
      | refine E_blockR ?_ | refine E_blockX ?_ | refine E_blockO rfl ?_ | refine qv rfl (rr_geq (b := false) rfl rfl (decide_eq_false (by omega))) rfl rfl ?_
      | refine qv rfl (qlen Und.eq rfl) rfl rfl ?_ | refine qv rfl (qfld FldC.fld rfl rfl) rfl rfl ?_ | refine qv rfl (rr_nilc rfl) rfl rfl ?_
      | refine qv rfl (rr_lss rfl rfl (qT (by omega))) rfl rfl ?_ | refine qv rfl (rr_lss rfl rfl (qF (by omega))) rfl rfl ?_
      | refine qv rfl (rr_gtr rfl rfl (qT (by omega))) rfl rfl ?_ | refine qv rfl (rr_gtr rfl rfl (qF (by omega))) rfl rfl ?_
      | refine qv rfl (rr_geq rfl rfl (qT (by omega))) rfl rfl ?_ | refine qv rfl (rr_geq rfl rfl (qF (by omega))) rfl rfl ?_
      | refine qv rfl (rr_neq rfl rfl (qT (by omega))) rfl rfl ?_ | refine qv rfl (rr_neq rfl rfl (qF (by omega))) rfl rfl ?_
      | refine qv rfl (rr_add64 rfl rfl (by omega) (by omega) rfl) rfl rfl ?_ | refine qv rfl (rr_sub64 rfl rfl (by omega) (by omega) rfl) rfl rfl ?_)
    refine T_nil 66 256 ?_
    refine T_pick [1, 2, 3, 4, 5, 6] (by decide) rfl ?_
    clear hre
    refine T_loop (ι := Nat × List Row × DM × Value × Value × Value) (fun (n, R, d, _, _, _) => R.length = n ∧ n ≤ d.S.length + 1 ∧ DOk m.ps d ∧ d.S.length + 1 ≤ 200 ∧ makeTo m (201 - n) n R d = makeD m) (fun (n, _, _, _, _, _) => [(2, .pointer (some ⟨g2, 0, none⟩)), (5, .pointer (some ⟨g5, 0, none⟩)), (7, .int .i64 (n : Int))])
      (fun (_, R, d, vs, vrows, vt) => [blkO g2 #[.slice none 0 0, .slice none 0 0] 26, blkO g5 (dmC vc vr vf vfol vl (.slice ae m.empty.length ce) vs (.map (some gm)) vrows vt) 63, setsO vs d.S, numO gm d.S, intR vt d.tags, rowO 66 256 vrows R.length (R.flatMap rowC)]) (fun (n, _, _, _, _, _) => 201 - n) (0, [], ⟨[], [t0]⟩, .slice (some ⟨gs, 0, none⟩) 1 1, .slice none 0 0, .slice (some ⟨g20, 0, none⟩) 1 1) ⟨rfl, Nat.zero_le _, ⟨List.nodup_nil, rfl⟩, by show 0 + 1 ≤ 200; omega, hfin⟩ (by repeat' (first | exact True.intro | refine And.intro rfl ?_)) rfl ?_
    clear hfin hk c1
    rintro ⟨n, R, d, vs, vrows, vt⟩ ⟨i0, i1, i2, i3, i4⟩
    dsimp only at i0 i1 i2 i3 i4 ⊢
    refine T_know (i := 2) rfl row_slm fun hrow => ?_
    obtain ⟨ab, cs, rfl, hmS, -⟩ := hrow
    by_cases c1 : n < d.S.length + 1
    · rw [show 201 - n = (201 - (n + 1)) + 1 by omega, make_step, if_pos c1] at i4
      obtain ⟨s1, s2, s3⟩ := rowTo_ok (p := m.ps) (nextF m d.S n) 256 0 (Vector.replicate 256 0) d i2 i3
      have hcall := fun w' (hm' : Mem (w : Base) [blkO g2 #[.slice none 0 0, .slice none 0 0] 26, blkO g5 (dmC vc vr vf vfol vl (.slice ae m.empty.length ce) (.slice ab (d.S.length + 1) cs) (.map (some gm)) vrows vt) 63, setsO (.slice ab (d.S.length + 1) cs) d.S, numO gm d.S, intR vt d.tags, rowO 66 256 vrows R.length (R.flatMap rowC)] w') (hb : Mem (Base.on w' (dmL vc vr vf vfol vl (.slice ae m.empty.length ce) vrows g5 gm (.slice ab (d.S.length + 1) cs) vt d)) (dmL vc vr vf vfol vl (.slice ae m.empty.length ce) vrows g5 gm (.slice ab (d.S.length + 1) cs) vt d) w') => hrw vrows d g5 gm n (.slice ab (d.S.length + 1) cs) vt i2 i3 (by omega) w' _ ((Old.self w).on hm' (by simp [dmL])) hb
      rw [show rowTo m.ps (nextF m d.S n) 256 0 (Vector.replicate 256 0) d = rowP m n d from rfl] at s1 s2 s3
      obtain ⟨r', d', hrp⟩ : ∃ r' d', rowP m n d = (r', d') := ⟨_, _, rfl⟩
      rw [hrp] at i4 s1 s2 s3
      dsimp only at i4 s1 s2 s3
      repeat (first
        | refine qv rfl (qp rfl) rfl rfl ?_ | refine TL_nil ?_ | refine T_seq ?_ | refine T_region ?_ | refine qcT rfl ?_ | refine qcF rfl ?_ | refine T_skip ?_
        | refine T_exit ?_ | refine T_ret ?_ | refine T_block ?_ | refine E_then ?_ | refine E_thenX ?_ | refine E_thenR ?_ | refine E_blockN ?_
        | refine E_blockR ?_ | refine E_blockX ?_ | refine E_blockO rfl ?_ | refine qv rfl (rr_nilc rfl) rfl rfl ?_
        | refine qv rfl (rr_load1 (v := .slice ab (d.S.length + 1) cs) TyC.ty rfl (at_blk (i := 1) rfl rfl)) rfl rfl ?_
        | refine qv rfl (rr_lss (b := true) rfl rfl (decide_eq_true (by omega))) rfl rfl ?_ | refine qv rfl (qlen Und.eq rfl) rfl rfl ?_
        | refine qv rfl (qfld FldC.fld rfl rfl) rfl rfl ?_ | refine qv rfl (rr_nilc rfl) rfl rfl ?_ | refine qv rfl (rr_lss rfl rfl (qT (by omega))) rfl rfl ?_
        | refine qv rfl (rr_lss rfl rfl (qF (by omega))) rfl rfl ?_ | refine qv rfl (rr_gtr rfl rfl (qT (by omega))) rfl rfl ?_
        | refine qv rfl (rr_gtr rfl rfl (qF (by omega))) rfl rfl ?_ | refine qv rfl (rr_geq rfl rfl (qT (by omega))) rfl rfl ?_
        | refine qv rfl (rr_geq rfl rfl (qF (by omega))) rfl rfl ?_ | refine qv rfl (rr_neq rfl rfl (qT (by omega))) rfl rfl ?_
        | refine qv rfl (rr_neq rfl rfl (qF (by omega))) rfl rfl ?_ | refine qv rfl (rr_add64 rfl rfl (by omega) (by omega) rfl) rfl rfl ?_
        | refine qv rfl (rr_sub64 rfl rfl (by omega) (by omega) rfl) rfl rfl ?_)
      (repeat refine T_seq ?_)
      refine T_midq (ι := Value × Value × Value) (fun _ => True) (fun _ => [(2, .pointer (some ⟨g2, 0, none⟩)), (5, .pointer (some ⟨g5, 0, none⟩)), (7, .int .i64 (n : Int))])
        (fun (vs', vrows', vt') => [blkO g2 #[.slice none 0 0, .slice none 0 0] 26, blkO g5 (dmC vc vr vf vfol vl (.slice ae m.empty.length ce) vs' (.map (some gm)) vrows' vt') 63, setsO vs' d'.S, numO gm d'.S, intR vt' d'.tags, rowO 66 256 vrows' (R ++ [r']).length ((R ++ [r']).flatMap rowC)]) ?_ ?_
      · refine T_ord ([]) (.calm 0 (.calm 1 (.calm 2 (.calm 3 (.calm 4 (.calm 6 (.calm 7 (.two 5 (.one 8 (.one 9 (.one 10 (.calm 11 (.calm 12 (.calm 13 (.one 14 (.done)))))))) 8 (.two 5 (.one 9 (.one 10 (.calm 11 (.calm 12 (.calm 13 (.one 14 (.done))))))) 9 (.one 5 (.one 10 (.calm 11 (.calm 12 (.calm 13 (.one 14 (.done)))))))))))))))) (sub_pick [] (by decide) rfl) (by kernel_rfl) (by kernel_rfl) (by intro c a d v w h; cases d <;> exact h) ?_
        repeat (first
          | ((first | refine TW_plain rfl rfl ?_ | refine TW_gmet rfl rfl rfl rfl ?_); first | refine TN_val (qp rfl) rfl rfl ?_ | refine TN_val (rr_nilc rfl) rfl rfl ?_ | refine TN_val (qlen Und.eq rfl) rfl rfl ?_ | refine TN_val (qfld FldC.fld rfl rfl) rfl rfl ?_ | refine TN_val (rr_nilc rfl) rfl rfl ?_ | refine TN_val (rr_lss rfl rfl (qT (by omega))) rfl rfl ?_ | refine TN_val (rr_lss rfl rfl (qF (by omega))) rfl rfl ?_ | refine TN_val (rr_gtr rfl rfl (qT (by omega))) rfl rfl ?_ | refine TN_val (rr_gtr rfl rfl (qF (by omega))) rfl rfl ?_ | refine TN_val (rr_geq rfl rfl (qT (by omega))) rfl rfl ?_ | refine TN_val (rr_geq rfl rfl (qF (by omega))) rfl rfl ?_ | refine TN_val (rr_neq rfl rfl (qT (by omega))) rfl rfl ?_ | refine TN_val (rr_neq rfl rfl (qF (by omega))) rfl rfl ?_ | refine TN_val (rr_add64 rfl rfl (by omega) (by omega) rfl) rfl rfl ?_ | refine TN_val (rr_sub64 rfl rfl (by omega) (by omega) rfl) rfl rfl ?_)
          | refine TW_done ?_)
        refine TW_two rfl rfl ?_ ?_
        · refine TL_val (rr_load1 (v := vrows) TyC.ty rfl (at_blk (i := 1) rfl rfl)) rfl rfl rfl (TW_on (sub_pick [] (by decide) rfl) ?_)
          refine TW_one rfl (TL_callB [1, 2, 3, 4] [0, 5] (by decide) rfl rfl (he2 EntersC.en rfl rfl rfl) (fun w' hm hb => hcall w' hm hb) rfl rfl rfl ?_)
          rintro ⟨vs', vt'⟩ _
          conv => arg 8; simp only [zA, zB, zC, zD, zE, zF, zG, zH, zI, rowS, ret, id_eq, rowSp, dmL]
          conv => arg 7; simp only [rowSp]
          rw [hrp]
          dsimp only
          refine TW_on (sub_pick [] (by decide) rfl) ?_
          refine TW_one rfl (TL_litN (cs := (rowC r').toArray) [rowV r'] rfl rfl rfl (row_litn r') rfl (row_lit r') rfl fun g62 => (TW_on (sub_pick [] (by decide) rfl) ?_))
          refine TW_one rfl (TL_appSl (i := 1) (e := 66) (size := 256) (bytes := 512) (m := R.length) (xs := R.flatMap rowC) (k := 1) (ys := rowC r') rfl (sl_blk (i := 6) rfl (fun j u h => by simpa using h) (Nat.le_refl 1) (by decide)) rfl rfl (by rw [rowC_len]) (fun u hu => row_one [r'] u (by simpa using hu)) (by omega) (by omega) rfl fun vrows' => (TW_on (sub_pick [] (by decide) rfl) ?_))
          repeat (first
            | ((first | refine TW_plain rfl rfl ?_ | refine TW_gmet rfl rfl rfl rfl ?_); first | refine TN_val (qp rfl) rfl rfl ?_ | refine TN_val (rr_nilc rfl) rfl rfl ?_ | refine TN_val (qlen Und.eq rfl) rfl rfl ?_ | refine TN_val (qfld FldC.fld rfl rfl) rfl rfl ?_ | refine TN_val (rr_nilc rfl) rfl rfl ?_ | refine TN_val (rr_lss rfl rfl (qT (by omega))) rfl rfl ?_ | refine TN_val (rr_lss rfl rfl (qF (by omega))) rfl rfl ?_ | refine TN_val (rr_gtr rfl rfl (qT (by omega))) rfl rfl ?_ | refine TN_val (rr_gtr rfl rfl (qF (by omega))) rfl rfl ?_ | refine TN_val (rr_geq rfl rfl (qT (by omega))) rfl rfl ?_ | refine TN_val (rr_geq rfl rfl (qF (by omega))) rfl rfl ?_ | refine TN_val (rr_neq rfl rfl (qT (by omega))) rfl rfl ?_ | refine TN_val (rr_neq rfl rfl (qF (by omega))) rfl rfl ?_ | refine TN_val (rr_add64 rfl rfl (by omega) (by omega) rfl) rfl rfl ?_ | refine TN_val (rr_sub64 rfl rfl (by omega) (by omega) rfl) rfl rfl ?_)
            | refine TW_done ?_)
          refine TW_one rfl (TL_slv (i := 1) rfl fun hv1 hv2 => TL_store1 (i := 2) rfl rfl rfl hv1 hv2 rfl (TW_on (sub_pick [] (by decide) rfl) ?_))
          repeat (first
            | ((first | refine TW_plain rfl rfl ?_ | refine TW_gmet rfl rfl rfl rfl ?_); first | refine TN_val (qp rfl) rfl rfl ?_ | refine TN_val (qlen Und.eq rfl) rfl rfl ?_ | refine TN_val (qfld FldC.fld rfl rfl) rfl rfl ?_ | refine TN_val (rr_nilc rfl) rfl rfl ?_ | refine TN_val (rr_lss rfl rfl (qT (by omega))) rfl rfl ?_ | refine TN_val (rr_lss rfl rfl (qF (by omega))) rfl rfl ?_ | refine TN_val (rr_gtr rfl rfl (qT (by omega))) rfl rfl ?_ | refine TN_val (rr_gtr rfl rfl (qF (by omega))) rfl rfl ?_ | refine TN_val (rr_geq rfl rfl (qT (by omega))) rfl rfl ?_ | refine TN_val (rr_geq rfl rfl (qF (by omega))) rfl rfl ?_ | refine TN_val (rr_neq rfl rfl (qT (by omega))) rfl rfl ?_ | refine TN_val (rr_neq rfl rfl (qF (by omega))) rfl rfl ?_ | refine TN_val (rr_add64 rfl rfl (by omega) (by omega) rfl) rfl rfl ?_ | refine TN_val (rr_sub64 rfl rfl (by omega) (by omega) rfl) rfl rfl ?_)
            | refine TW_done ?_)
          refine E_pick [0, 2, 3, 4, 5, 1] (by decide) rfl ?_
          exact E_mid (vs', vrows', vt') trivial (by repeat' (first | exact True.intro | refine And.intro rfl ?_)) (by dsimp only; rw [row_snocR]; rfl)
        · refine TL_callB [1, 2, 3, 4] [0, 5] (by decide) rfl rfl (he2 EntersC.en rfl rfl rfl) (fun w' hm hb => hcall w' hm hb) rfl rfl rfl ?_
          rintro ⟨vs', vt'⟩ _
          conv => arg 8; simp only [zA, zB, zC, zD, zE, zF, zG, zH, zI, rowS, ret, id_eq, rowSp, dmL]
          conv => arg 7; simp only [rowSp]
          rw [hrp]
          dsimp only
          refine TW_on (sub_pick [] (by decide) rfl) ?_
          refine TW_two rfl rfl ?_ ?_
          · refine TL_val (rr_load1 (v := vrows) TyC.ty rfl (at_blk (i := 2) rfl rfl)) rfl rfl rfl (TW_on (sub_pick [] (by decide) rfl) ?_)
            refine TW_one rfl (TL_litN (cs := (rowC r').toArray) [rowV r'] rfl rfl rfl (row_litn r') rfl (row_lit r') rfl fun g62 => (TW_on (sub_pick [] (by decide) rfl) ?_))
            refine TW_one rfl (TL_appSl (i := 1) (e := 66) (size := 256) (bytes := 512) (m := R.length) (xs := R.flatMap rowC) (k := 1) (ys := rowC r') rfl (sl_blk (i := 6) rfl (fun j u h => by simpa using h) (Nat.le_refl 1) (by decide)) rfl rfl (by rw [rowC_len]) (fun u hu => row_one [r'] u (by simpa using hu)) (by omega) (by omega) rfl fun vrows' => (TW_on (sub_pick [] (by decide) rfl) ?_))
            repeat (first
              | ((first | refine TW_plain rfl rfl ?_ | refine TW_gmet rfl rfl rfl rfl ?_); first | refine TN_val (qp rfl) rfl rfl ?_ | refine TN_val (rr_nilc rfl) rfl rfl ?_ | refine TN_val (qlen Und.eq rfl) rfl rfl ?_ | refine TN_val (qfld FldC.fld rfl rfl) rfl rfl ?_ | refine TN_val (rr_nilc rfl) rfl rfl ?_ | refine TN_val (rr_lss rfl rfl (qT (by omega))) rfl rfl ?_ | refine TN_val (rr_lss rfl rfl (qF (by omega))) rfl rfl ?_ | refine TN_val (rr_gtr rfl rfl (qT (by omega))) rfl rfl ?_ | refine TN_val (rr_gtr rfl rfl (qF (by omega))) rfl rfl ?_ | refine TN_val (rr_geq rfl rfl (qT (by omega))) rfl rfl ?_ | refine TN_val (rr_geq rfl rfl (qF (by omega))) rfl rfl ?_ | refine TN_val (rr_neq rfl rfl (qT (by omega))) rfl rfl ?_ | refine TN_val (rr_neq rfl rfl (qF (by omega))) rfl rfl ?_ | refine TN_val (rr_add64 rfl rfl (by omega) (by omega) rfl) rfl rfl ?_ | refine TN_val (rr_sub64 rfl rfl (by omega) (by omega) rfl) rfl rfl ?_)
              | refine TW_done ?_)
            refine TW_one rfl (TL_slv (i := 1) rfl fun hv1 hv2 => TL_store1 (i := 2) rfl rfl rfl hv1 hv2 rfl (TW_on (sub_pick [] (by decide) rfl) ?_))
            repeat (first
              | ((first | refine TW_plain rfl rfl ?_ | refine TW_gmet rfl rfl rfl rfl ?_); first | refine TN_val (qp rfl) rfl rfl ?_ | refine TN_val (qlen Und.eq rfl) rfl rfl ?_ | refine TN_val (qfld FldC.fld rfl rfl) rfl rfl ?_ | refine TN_val (rr_nilc rfl) rfl rfl ?_ | refine TN_val (rr_lss rfl rfl (qT (by omega))) rfl rfl ?_ | refine TN_val (rr_lss rfl rfl (qF (by omega))) rfl rfl ?_ | refine TN_val (rr_gtr rfl rfl (qT (by omega))) rfl rfl ?_ | refine TN_val (rr_gtr rfl rfl (qF (by omega))) rfl rfl ?_ | refine TN_val (rr_geq rfl rfl (qT (by omega))) rfl rfl ?_ | refine TN_val (rr_geq rfl rfl (qF (by omega))) rfl rfl ?_ | refine TN_val (rr_neq rfl rfl (qT (by omega))) rfl rfl ?_ | refine TN_val (rr_neq rfl rfl (qF (by omega))) rfl rfl ?_ | refine TN_val (rr_add64 rfl rfl (by omega) (by omega) rfl) rfl rfl ?_ | refine TN_val (rr_sub64 rfl rfl (by omega) (by omega) rfl) rfl rfl ?_)
              | refine TW_done ?_)
            refine E_pick [0, 2, 3, 4, 5, 1] (by decide) rfl ?_
            exact E_mid (vs', vrows', vt') trivial (by repeat' (first | exact True.intro | refine And.intro rfl ?_)) (by dsimp only; rw [row_snocR]; rfl)
          · refine TL_litN (cs := (rowC r').toArray) [rowV r'] rfl rfl rfl (row_litn r') rfl (row_lit r') rfl fun g62 => (TW_on (sub_pick [] (by decide) rfl) ?_)
            refine TW_one rfl (TL_val (rr_load1 (v := vrows) TyC.ty rfl (at_blk (i := 2) rfl rfl)) rfl rfl rfl (TW_on (sub_pick [] (by decide) rfl) ?_))
            refine TW_one rfl (TL_appSl (i := 1) (e := 66) (size := 256) (bytes := 512) (m := R.length) (xs := R.flatMap rowC) (k := 1) (ys := rowC r') rfl (sl_blk (i := 6) rfl (fun j u h => by simpa using h) (Nat.le_refl 1) (by decide)) rfl rfl (by rw [rowC_len]) (fun u hu => row_one [r'] u (by simpa using hu)) (by omega) (by omega) rfl fun vrows' => (TW_on (sub_pick [] (by decide) rfl) ?_))
            repeat (first
              | ((first | refine TW_plain rfl rfl ?_ | refine TW_gmet rfl rfl rfl rfl ?_); first | refine TN_val (qp rfl) rfl rfl ?_ | refine TN_val (rr_nilc rfl) rfl rfl ?_ | refine TN_val (qlen Und.eq rfl) rfl rfl ?_ | refine TN_val (qfld FldC.fld rfl rfl) rfl rfl ?_ | refine TN_val (rr_nilc rfl) rfl rfl ?_ | refine TN_val (rr_lss rfl rfl (qT (by omega))) rfl rfl ?_ | refine TN_val (rr_lss rfl rfl (qF (by omega))) rfl rfl ?_ | refine TN_val (rr_gtr rfl rfl (qT (by omega))) rfl rfl ?_ | refine TN_val (rr_gtr rfl rfl (qF (by omega))) rfl rfl ?_ | refine TN_val (rr_geq rfl rfl (qT (by omega))) rfl rfl ?_ | refine TN_val (rr_geq rfl rfl (qF (by omega))) rfl rfl ?_ | refine TN_val (rr_neq rfl rfl (qT (by omega))) rfl rfl ?_ | refine TN_val (rr_neq rfl rfl (qF (by omega))) rfl rfl ?_ | refine TN_val (rr_add64 rfl rfl (by omega) (by omega) rfl) rfl rfl ?_ | refine TN_val (rr_sub64 rfl rfl (by omega) (by omega) rfl) rfl rfl ?_)
              | refine TW_done ?_)
            refine TW_one rfl (TL_slv (i := 1) rfl fun hv1 hv2 => TL_store1 (i := 2) rfl rfl rfl hv1 hv2 rfl (TW_on (sub_pick [] (by decide) rfl) ?_))
            repeat (first
              | ((first | refine TW_plain rfl rfl ?_ | refine TW_gmet rfl rfl rfl rfl ?_); first | refine TN_val (qp rfl) rfl rfl ?_ | refine TN_val (qlen Und.eq rfl) rfl rfl ?_ | refine TN_val (qfld FldC.fld rfl rfl) rfl rfl ?_ | refine TN_val (rr_nilc rfl) rfl rfl ?_ | refine TN_val (rr_lss rfl rfl (qT (by omega))) rfl rfl ?_ | refine TN_val (rr_lss rfl rfl (qF (by omega))) rfl rfl ?_ | refine TN_val (rr_gtr rfl rfl (qT (by omega))) rfl rfl ?_ | refine TN_val (rr_gtr rfl rfl (qF (by omega))) rfl rfl ?_ | refine TN_val (rr_geq rfl rfl (qT (by omega))) rfl rfl ?_ | refine TN_val (rr_geq rfl rfl (qF (by omega))) rfl rfl ?_ | refine TN_val (rr_neq rfl rfl (qT (by omega))) rfl rfl ?_ | refine TN_val (rr_neq rfl rfl (qF (by omega))) rfl rfl ?_ | refine TN_val (rr_add64 rfl rfl (by omega) (by omega) rfl) rfl rfl ?_ | refine TN_val (rr_sub64 rfl rfl (by omega) (by omega) rfl) rfl rfl ?_)
              | refine TW_done ?_)
            refine E_pick [0, 2, 3, 4, 5, 1] (by decide) rfl ?_
            exact E_mid (vs', vrows', vt') trivial (by repeat' (first | exact True.intro | refine And.intro rfl ?_)) (by dsimp only; rw [row_snocR]; rfl)
      clear hcall
      rintro ⟨vs', vrows', vt'⟩ _
      dsimp only
      refine T_know (i := 2) rfl row_slm fun hrow => ?_
      obtain ⟨ab', cs', rfl, hmS', -⟩ := hrow
      by_cases c2 : 200 < d'.S.length + 1
      · rw [if_pos c2] at i4
        have ho := outD_8 i4.symm
        unfold mkdSp
        rw [ho]
        repeat (first
          | refine qv rfl (qp rfl) rfl rfl ?_ | refine TL_nil ?_ | refine T_seq ?_ | refine T_region ?_ | refine qcT rfl ?_ | refine qcF rfl ?_ | refine T_skip ?_
          | refine T_exit ?_ | refine T_ret ?_ | refine T_block ?_ | refine E_then ?_ | refine E_thenX ?_ | refine E_thenR ?_ | refine E_blockN ?_
          | refine E_blockR ?_ | refine E_blockX ?_ | refine E_blockO rfl ?_ | refine qv rfl (rr_nilc rfl) rfl rfl ?_
          | refine qv rfl (rr_load1 (v := .slice ab' (d'.S.length + 1) cs') TyC.ty rfl (at_blk (i := 1) rfl rfl)) rfl rfl ?_
          | refine qv rfl (rr_gtr (b := true) rfl rfl (decide_eq_true (by omega))) rfl rfl ?_ | refine qv rfl (rr_build rfl hbz) rfl rfl ?_
          | refine qv rfl (qlen Und.eq rfl) rfl rfl ?_ | refine qv rfl (qfld FldC.fld rfl rfl) rfl rfl ?_ | refine qv rfl (rr_nilc rfl) rfl rfl ?_
          | refine qv rfl (rr_lss rfl rfl (qT (by omega))) rfl rfl ?_ | refine qv rfl (rr_lss rfl rfl (qF (by omega))) rfl rfl ?_
          | refine qv rfl (rr_gtr rfl rfl (qT (by omega))) rfl rfl ?_ | refine qv rfl (rr_gtr rfl rfl (qF (by omega))) rfl rfl ?_
          | refine qv rfl (rr_geq rfl rfl (qT (by omega))) rfl rfl ?_ | refine qv rfl (rr_geq rfl rfl (qF (by omega))) rfl rfl ?_
          | refine qv rfl (rr_neq rfl rfl (qT (by omega))) rfl rfl ?_ | refine qv rfl (rr_neq rfl rfl (qF (by omega))) rfl rfl ?_
          | refine qv rfl (rr_add64 rfl rfl (by omega) (by omega) rfl) rfl rfl ?_ | refine qv rfl (rr_sub64 rfl rfl (by omega) (by omega) rfl) rfl rfl ?_)
        refine TL_storeB (i := 0) rfl rfl rfl rfl rfl rfl ?_
        conv => arg 8; simp only [zA, zB, zC, zD, zE, zF, zG, zH, zI, rowS, ret, id_eq]
        repeat (first
          | refine qv rfl (qp rfl) rfl rfl ?_ | refine TL_nil ?_ | refine T_seq ?_ | refine T_region ?_ | refine qcT rfl ?_ | refine qcF rfl ?_ | refine T_skip ?_
          | refine T_exit ?_ | refine T_ret ?_ | refine T_block ?_ | refine E_then ?_ | refine E_thenX ?_ | refine E_thenR ?_ | refine E_blockN ?_
          | refine E_blockR ?_ | refine E_blockX ?_ | refine E_blockO rfl ?_ | refine qv rfl (qlen Und.eq rfl) rfl rfl ?_
          | refine qv rfl (qfld FldC.fld rfl rfl) rfl rfl ?_ | refine qv rfl (rr_nilc rfl) rfl rfl ?_ | refine qv rfl (rr_lss rfl rfl (qT (by omega))) rfl rfl ?_
          | refine qv rfl (rr_lss rfl rfl (qF (by omega))) rfl rfl ?_ | refine qv rfl (rr_gtr rfl rfl (qT (by omega))) rfl rfl ?_
          | refine qv rfl (rr_gtr rfl rfl (qF (by omega))) rfl rfl ?_ | refine qv rfl (rr_geq rfl rfl (qT (by omega))) rfl rfl ?_
          | refine qv rfl (rr_geq rfl rfl (qF (by omega))) rfl rfl ?_ | refine qv rfl (rr_neq rfl rfl (qT (by omega))) rfl rfl ?_
          | refine qv rfl (rr_neq rfl rfl (qF (by omega))) rfl rfl ?_ | refine qv rfl (rr_add64 rfl rfl (by omega) (by omega) rfl) rfl rfl ?_
          | refine qv rfl (rr_sub64 rfl rfl (by omega) (by omega) rfl) rfl rfl ?_)
        refine E_nilrow 66 256 (E_nilrow 3 1 ?_)
        exact E_retc2 (i := 0) rfl rfl rfl rfl rfl fun w hm => hm.meets (S := ⟨fun (_ : Value × Value) => True, fun x => .tuple #[dfaV x.1 x.2, .int .i64 8], fun x => [rowO 66 256 x.1 0 [], rowO 3 1 x.2 0 []]⟩) (.slice none 0 0, .slice none 0 0) trivial [6, 7] (by decide) rfl
      · rw [if_neg c2] at i4
        repeat (first
          | refine qv rfl (qp rfl) rfl rfl ?_ | refine TL_nil ?_ | refine T_seq ?_ | refine T_region ?_ | refine qcT rfl ?_ | refine qcF rfl ?_ | refine T_skip ?_
          | refine T_exit ?_ | refine T_ret ?_ | refine T_block ?_ | refine E_then ?_ | refine E_thenX ?_ | refine E_thenR ?_ | refine E_blockN ?_
          | refine E_blockR ?_ | refine E_blockX ?_ | refine E_blockO rfl ?_ | refine qv rfl (rr_nilc rfl) rfl rfl ?_
          | refine qv rfl (rr_load1 (v := .slice ab' (d'.S.length + 1) cs') TyC.ty rfl (at_blk (i := 1) rfl rfl)) rfl rfl ?_
          | refine qv rfl (rr_gtr (b := false) rfl rfl (decide_eq_false (by omega))) rfl rfl ?_ | refine qv rfl (qlen Und.eq rfl) rfl rfl ?_
          | refine qv rfl (qfld FldC.fld rfl rfl) rfl rfl ?_ | refine qv rfl (rr_nilc rfl) rfl rfl ?_ | refine qv rfl (rr_lss rfl rfl (qT (by omega))) rfl rfl ?_
          | refine qv rfl (rr_lss rfl rfl (qF (by omega))) rfl rfl ?_ | refine qv rfl (rr_gtr rfl rfl (qT (by omega))) rfl rfl ?_
          | refine qv rfl (rr_gtr rfl rfl (qF (by omega))) rfl rfl ?_ | refine qv rfl (rr_geq rfl rfl (qT (by omega))) rfl rfl ?_
          | refine qv rfl (rr_geq rfl rfl (qF (by omega))) rfl rfl ?_ | refine qv rfl (rr_neq rfl rfl (qT (by omega))) rfl rfl ?_
          | refine qv rfl (rr_neq rfl rfl (qF (by omega))) rfl rfl ?_ | refine qv rfl (rr_add64 rfl rfl (by omega) (by omega) rfl) rfl rfl ?_
          | refine qv rfl (rr_sub64 rfl rfl (by omega) (by omega) rfl) rfl rfl ?_)
        exact E_round (n + 1, R ++ [r'], d', .slice ab' (d'.S.length + 1) cs', vrows', vt') ⟨by rw [List.length_append, i0]; rfl, by show n + 1 ≤ d'.S.length + 1; omega, s1, by show d'.S.length + 1 ≤ 200; omega, i4⟩ (by show 201 - (n + 1) < 201 - n; omega) (by repeat' (first | exact True.intro | refine And.intro rfl ?_)) rfl
    · have i5 : makeD m = some (R, d) := by
        rw [← i4, show 201 - n = (201 - (n + 1)) + 1 by omega, make_step, if_neg c1]
      have ho := outD_0 i5
      unfold mkdSp
      rw [ho]
      refine T_know (i := 4) rfl row_slm fun hrow => ?_
      obtain ⟨at', ct', rfl, -⟩ := hrow
      refine T_know (i := 5) rfl row_slm fun hrow => ?_
      obtain ⟨ar', cr', rfl, -⟩ := hrow
      repeat (first
        | refine qv rfl (qp rfl) rfl rfl ?_ | refine TL_nil ?_ | refine T_seq ?_ | refine T_region ?_ | refine qcT rfl ?_ | refine qcF rfl ?_ | refine T_skip ?_
        | refine T_exit ?_ | refine T_ret ?_ | refine T_block ?_ | refine E_then ?_ | refine E_thenX ?_ | refine E_thenR ?_ | refine E_blockN ?_
        | refine E_blockR ?_ | refine E_blockX ?_ | refine E_blockO rfl ?_ | refine qv rfl (rr_nilc rfl) rfl rfl ?_
        | refine qv rfl (rr_load1 (v := .slice ab (d.S.length + 1) cs) TyC.ty rfl (at_blk (i := 1) rfl rfl)) rfl rfl ?_
        | refine qv rfl (rr_lss (b := false) rfl rfl (decide_eq_false (by omega))) rfl rfl ?_
        | refine qv rfl (rr_loadN (cs := [.slice ar' R.length cr', .slice at' d.tags.length ct']) TyC.ty rfl rfl (fun j v hj => at_blk (i := 1) rfl (dmc_at hj))) rfl rfl ?_
        | refine qv rfl (qlen Und.eq rfl) rfl rfl ?_ | refine qv rfl (qfld FldC.fld rfl rfl) rfl rfl ?_ | refine qv rfl (rr_nilc rfl) rfl rfl ?_
        | refine qv rfl (rr_lss rfl rfl (qT (by omega))) rfl rfl ?_ | refine qv rfl (rr_lss rfl rfl (qF (by omega))) rfl rfl ?_
        | refine qv rfl (rr_gtr rfl rfl (qT (by omega))) rfl rfl ?_ | refine qv rfl (rr_gtr rfl rfl (qF (by omega))) rfl rfl ?_
        | refine qv rfl (rr_geq rfl rfl (qT (by omega))) rfl rfl ?_ | refine qv rfl (rr_geq rfl rfl (qF (by omega))) rfl rfl ?_
        | refine qv rfl (rr_neq rfl rfl (qT (by omega))) rfl rfl ?_ | refine qv rfl (rr_neq rfl rfl (qF (by omega))) rfl rfl ?_
        | refine qv rfl (rr_add64 rfl rfl (by omega) (by omega) rfl) rfl rfl ?_ | refine qv rfl (rr_sub64 rfl rfl (by omega) (by omega) rfl) rfl rfl ?_)
      refine TL_storeB (i := 0) (cs' := #[.slice ar' R.length cr', .slice at' d.tags.length ct']) rfl rfl rfl rfl rfl rfl ?_
      conv => arg 8; simp only [zA, zB, zC, zD, zE, zF, zG, zH, zI, rowS, ret, id_eq]
      repeat (first
        | refine qv rfl (qp rfl) rfl rfl ?_ | refine TL_nil ?_ | refine T_seq ?_ | refine T_region ?_ | refine qcT rfl ?_ | refine qcF rfl ?_ | refine T_skip ?_
        | refine T_exit ?_ | refine T_ret ?_ | refine T_block ?_ | refine E_then ?_ | refine E_thenX ?_ | refine E_thenR ?_ | refine E_blockN ?_
        | refine E_blockR ?_ | refine E_blockX ?_ | refine E_blockO rfl ?_ | refine qv rfl (qlen Und.eq rfl) rfl rfl ?_
        | refine qv rfl (qfld FldC.fld rfl rfl) rfl rfl ?_ | refine qv rfl (rr_nilc rfl) rfl rfl ?_ | refine qv rfl (rr_lss rfl rfl (qT (by omega))) rfl rfl ?_
        | refine qv rfl (rr_lss rfl rfl (qF (by omega))) rfl rfl ?_ | refine qv rfl (rr_gtr rfl rfl (qT (by omega))) rfl rfl ?_
        | refine qv rfl (rr_gtr rfl rfl (qF (by omega))) rfl rfl ?_ | refine qv rfl (rr_geq rfl rfl (qT (by omega))) rfl rfl ?_
        | refine qv rfl (rr_geq rfl rfl (qF (by omega))) rfl rfl ?_ | refine qv rfl (rr_neq rfl rfl (qT (by omega))) rfl rfl ?_
        | refine qv rfl (rr_neq rfl rfl (qF (by omega))) rfl rfl ?_ | refine qv rfl (rr_add64 rfl rfl (by omega) (by omega) rfl) rfl rfl ?_
        | refine qv rfl (rr_sub64 rfl rfl (by omega) (by omega) rfl) rfl rfl ?_)
      exact E_retc2 (i := 0) rfl rfl rfl rfl rfl fun w hm => hm.meets (S := ⟨fun (_ : Value × Value) => True, fun x => .tuple #[dfaV x.1 x.2, .int .i64 0], fun x => [rowO 66 256 x.1 R.length (R.flatMap rowC), intR x.2 d.tags]⟩) (.slice ar' R.length cr', .slice at' d.tags.length ct') trivial [5, 4] (by decide) rfl
end Go.Proofs.Ytknojgjdaafboaa.eng

/- Made -/
namespace Go.Proofs.Ytknojgjdaafboaa.eng
open Go.RowKit kit mix classL rexL placesL dfaP smallL
def mdSp (x : List Row × List Int × Bool) : Spec (Value × Value) := ⟨fun _ => True, fun v => .tuple #[dfaV v.1 v.2, .bool x.2.2], fun v => [rowO 66 256 v.1 x.1.length (x.1.flatMap rowC), intR v.2 x.2.1]⟩
/-- what rules are made into -/
def MadeR (rs : List Rx) (x : List Row × List Int × Bool) : Prop :=
  (∃ k : Int, k ≠ 0 ∧ MakeR rs (k, .zero) ∧ x = ([], [], false)) ∨ ∃ (es : List Re) (m : MS), rs = es.map emb ∧ (∀ e ∈ es, Fit e 1 0) ∧ 0 < es.length ∧ es.length ≤ 20 ∧ loopM 0 .zero es = (0, m) ∧ MakeR rs (0, m) ∧ x = ((outD m).1, (outD m).2.1, decide ((outD m).2.2 = 0))
theorem madeR_of (rs : List Rx) : ∃ x, MadeR rs x := by
  rcases makeR_two rs with ⟨k, h1, h2⟩ | ⟨es, m, h1, h2, h3, h4, h5, h6⟩
  · exact ⟨_, .inl ⟨k, h1, h2, rfl⟩⟩
  · exact ⟨_, .inr ⟨es, m, h1, h2, h3, h4, h5, h6, rfl⟩⟩
set_option maxHeartbeats 4000000 in
theorem made_calls (v : Value) (rs : List Rx) (x : List Row × List Int × Bool) (w : World) (hv : SlF rexS (Low w) w v rs) (hx : MadeR rs x) :
    Calls Try.prog 4 #[v] w (Meets (mdSp x) w) := by
  have hvg := fun w' (hg : Gr w w') => slr_gr hv hg
  obtain ⟨bk, ck, rfl, -⟩ := hv
  have hbz := build_dfaz
  rcases hx with ⟨k, hk, hR, rfl⟩ | ⟨es, m, rfl, hfit, h0, h20, hlp, hR, rfl⟩
  · have hmk := fun w' (hg : Gr w w') => make_calls (.slice bk rs.length ck) rs (k, .zero) w' (hvg w' hg) hR
    refine enter (args := [.slice bk rs.length ck]) (n := 23) Try.func4 rfl rfl rfl ?_
    refine T_seq (T_region (TL_new rfl fun g2 => ?_))
    conv => arg 8; simp only [zA, zB, zC, zD, zE, zF, zG, zH, zI, rowS, ret, id_eq]
    repeat (first
      | refine qv rfl (qp rfl) rfl rfl ?_ | refine TL_nil ?_ | refine T_seq ?_ | refine T_region ?_ | refine qcT rfl ?_ | refine qcF rfl ?_ | refine T_skip ?_
      | refine T_ret ?_ | refine E_then ?_ | refine E_thenR ?_ | refine qv rfl (rr_eql rfl rfl (qT (by omega))) rfl rfl ?_
      | refine qv rfl (rr_eql rfl rfl (qF (by omega))) rfl rfl ?_ | refine qv rfl (rr_neq rfl rfl (qT (by omega))) rfl rfl ?_
      | refine qv rfl (rr_neq rfl rfl (qF (by omega))) rfl rfl ?_)
    refine TL_call (he1 EntersC.en rfl rfl) (fun w hm => hmk _ hm.below) rfl rfl rfl ?_
    rintro ⟨vc1, vr1, vf1, vfol1, vl1, ve1, vs1, F1⟩ hx1
    conv => arg 8; simp only [zA, zB, zC, zD, zE, zF, zG, zH, zI, rowS, ret, id_eq, makeSp, posL, posC]
    conv => arg 7; simp only [makeSp, posC]
    refine TL_slv (i := 1) rfl fun _ a1 => TL_slv (i := 2) rfl fun _ a2 => TL_slv (i := 3) rfl fun _ a3 => TL_slv (i := 4) rfl fun _ a4 => TL_slv (i := 6) rfl fun _ a5 => TL_slv (i := 7) rfl fun _ a6 => ?_
    repeat (first
      | refine qv rfl (qp rfl) rfl rfl ?_ | refine TL_nil ?_ | refine T_seq ?_ | refine T_region ?_ | refine qcT rfl ?_ | refine qcF rfl ?_ | refine T_skip ?_
      | refine T_ret ?_ | refine E_then ?_ | refine E_thenR ?_ | refine qv rfl (rr_eql rfl rfl (qT (by omega))) rfl rfl ?_
      | refine qv rfl (rr_eql rfl rfl (qF (by omega))) rfl rfl ?_ | refine qv rfl (rr_neq rfl rfl (qT (by omega))) rfl rfl ?_
      | refine qv rfl (rr_neq rfl rfl (qF (by omega))) rfl rfl ?_)
    refine TL_new rfl fun g4 => ?_
    conv => arg 8; simp only [zA, zB, zC, zD, zE, zF, zG, zH, zI, rowS, ret, id_eq]
    refine TL_storeB (i := 8) (cs' := #[vc1, vr1, vf1, vfol1, vl1, ve1]) rfl rfl rfl rfl (by simp only [List.all_cons, List.all_nil, a1, a2, a3, a4, a5, a6]; rfl) rfl ?_
    conv => arg 8; simp only [zA, zB, zC, zD, zE, zF, zG, zH, zI, rowS, ret, id_eq]
    repeat (first
      | refine qv rfl (qp rfl) rfl rfl ?_ | refine TL_nil ?_ | refine T_seq ?_ | refine T_region ?_ | refine qcT rfl ?_ | refine qcF rfl ?_ | refine T_skip ?_
      | refine T_ret ?_ | refine E_then ?_ | refine E_thenR ?_ | refine qv rfl (rr_neq (b := true) rfl rfl (decide_eq_true hk)) rfl rfl ?_
      | refine qv rfl (rr_build rfl hbz) rfl rfl ?_ | refine qv rfl (rr_eql rfl rfl (qT (by omega))) rfl rfl ?_
      | refine qv rfl (rr_eql rfl rfl (qF (by omega))) rfl rfl ?_ | refine qv rfl (rr_neq rfl rfl (qT (by omega))) rfl rfl ?_
      | refine qv rfl (rr_neq rfl rfl (qF (by omega))) rfl rfl ?_)
    refine TL_storeB (i := 0) rfl rfl rfl rfl rfl rfl ?_
    conv => arg 8; simp only [zA, zB, zC, zD, zE, zF, zG, zH, zI, rowS, ret, id_eq]
    repeat (first
      | refine qv rfl (qp rfl) rfl rfl ?_ | refine TL_nil ?_ | refine T_seq ?_ | refine T_region ?_ | refine qcT rfl ?_ | refine qcF rfl ?_ | refine T_skip ?_
      | refine T_ret ?_ | refine E_then ?_ | refine E_thenR ?_ | refine qv rfl (rr_eql rfl rfl (qT (by omega))) rfl rfl ?_
      | refine qv rfl (rr_eql rfl rfl (qF (by omega))) rfl rfl ?_ | refine qv rfl (rr_neq rfl rfl (qT (by omega))) rfl rfl ?_
      | refine qv rfl (rr_neq rfl rfl (qF (by omega))) rfl rfl ?_)
    refine E_nilrow 66 256 (E_nilrow 3 1 ?_)
    exact E_retc2 (i := 0) rfl rfl rfl rfl rfl fun w hm => hm.meets (S := mdSp ([], [], false)) (.slice none 0 0, .slice none 0 0) trivial [9, 10] (by decide) rfl
  · have hmk := fun w' (hg : Gr w w') => make_calls (.slice bk (es.map emb).length ck) (es.map emb) (0, m) w' (hvg w' hg) hR
    have hok := make_ok h0 h20 hlp
    have hdm := fun v' w' h => dfaMake_calls v' m w' h hok
    unfold mkdSp at hdm
    generalize outD m = D at *
    obtain ⟨R, T, e⟩ := D
    dsimp only at hdm ⊢
    refine enter (args := [.slice bk (es.map emb).length ck]) (n := 23) Try.func4 rfl rfl rfl ?_
    refine T_seq (T_region (TL_new rfl fun g2 => ?_))
    conv => arg 8; simp only [zA, zB, zC, zD, zE, zF, zG, zH, zI, rowS, ret, id_eq]
    repeat (first
      | refine qv rfl (qp rfl) rfl rfl ?_ | refine TL_nil ?_ | refine T_seq ?_ | refine T_region ?_ | refine qcT rfl ?_ | refine qcF rfl ?_ | refine T_skip ?_
      | refine T_ret ?_ | refine E_then ?_ | refine E_thenR ?_ | refine qv rfl (rr_eql rfl rfl (qT (by omega))) rfl rfl ?_
      | refine qv rfl (rr_eql rfl rfl (qF (by omega))) rfl rfl ?_ | refine qv rfl (rr_neq rfl rfl (qT (by omega))) rfl rfl ?_
      | refine qv rfl (rr_neq rfl rfl (qF (by omega))) rfl rfl ?_)
    refine TL_call (he1 EntersC.en rfl rfl) (fun w hm => hmk _ hm.below) rfl rfl rfl ?_
    rintro ⟨vc1, vr1, vf1, vfol1, vl1, ve1, vs1, F1⟩ hx1
    have hx1 : vs1.length = m.ps.follow.length := hx1
    conv => arg 8; simp only [zA, zB, zC, zD, zE, zF, zG, zH, zI, rowS, ret, id_eq, makeSp, posL, posC]
    conv => arg 7; simp only [makeSp, posC]
    refine TL_slv (i := 1) rfl fun _ a1 => TL_slv (i := 2) rfl fun _ a2 => TL_slv (i := 3) rfl fun _ a3 => TL_slv (i := 4) rfl fun _ a4 => TL_slv (i := 6) rfl fun _ a5 => TL_slv (i := 7) rfl fun _ a6 => ?_
    repeat (first
      | refine qv rfl (qp rfl) rfl rfl ?_ | refine TL_nil ?_ | refine T_seq ?_ | refine T_region ?_ | refine qcT rfl ?_ | refine qcF rfl ?_ | refine T_skip ?_
      | refine T_ret ?_ | refine E_then ?_ | refine E_thenR ?_ | refine qv rfl (rr_eql rfl rfl (qT (by omega))) rfl rfl ?_
      | refine qv rfl (rr_eql rfl rfl (qF (by omega))) rfl rfl ?_ | refine qv rfl (rr_neq rfl rfl (qT (by omega))) rfl rfl ?_
      | refine qv rfl (rr_neq rfl rfl (qF (by omega))) rfl rfl ?_)
    refine TL_new rfl fun g4 => ?_
    conv => arg 8; simp only [zA, zB, zC, zD, zE, zF, zG, zH, zI, rowS, ret, id_eq]
    refine TL_storeB (i := 8) (cs' := #[vc1, vr1, vf1, vfol1, vl1, ve1]) rfl rfl rfl rfl (by simp only [List.all_cons, List.all_nil, a1, a2, a3, a4, a5, a6]; rfl) rfl ?_
    conv => arg 8; simp only [zA, zB, zC, zD, zE, zF, zG, zH, zI, rowS, ret, id_eq]
    clear a1 a2 a3 a4 a5 a6
    repeat (first
      | refine qv rfl (qp rfl) rfl rfl ?_ | refine TL_nil ?_ | refine T_seq ?_ | refine T_region ?_ | refine qcT rfl ?_ | refine qcF rfl ?_ | refine T_skip ?_
      | refine T_ret ?_ | refine E_then ?_ | refine E_thenR ?_ | refine qv rfl (rr_neq (b := false) rfl rfl (decide_eq_false (by simp))) rfl rfl ?_
      | refine qv rfl (rr_loadB (i := 8) TyC.ty rfl rfl rfl) rfl rfl ?_ | refine qv rfl (rr_eql rfl rfl (qT (by omega))) rfl rfl ?_
      | refine qv rfl (rr_eql rfl rfl (qF (by omega))) rfl rfl ?_ | refine qv rfl (rr_neq rfl rfl (qT (by omega))) rfl rfl ?_
      | refine qv rfl (rr_neq rfl rfl (qF (by omega))) rfl rfl ?_)
    refine TL_call (he1 EntersC.en rfl rfl) (fun w hm => hdm _ w (hm.posR (x := ⟨vc1, vr1, vf1, vfol1, vl1, ve1, vs1, F1⟩) 1 hx1 rfl (by simp))) rfl rfl rfl ?_
    rintro ⟨vrr, vtt⟩ _
    conv => arg 8; simp only [zA, zB, zC, zD, zE, zF, zG, zH, zI, rowS, ret, id_eq, dfaV]
    conv => arg 7; simp only [dfaV]
    refine TL_slv (i := 9) rfl fun _ a1 => TL_slv (i := 10) rfl fun _ a2 => ?_
    repeat (first
      | refine qv rfl (qp rfl) rfl rfl ?_ | refine TL_nil ?_ | refine T_seq ?_ | refine T_region ?_ | refine qcT rfl ?_ | refine qcF rfl ?_ | refine T_skip ?_
      | refine T_ret ?_ | refine E_then ?_ | refine E_thenR ?_ | refine qv rfl (rr_eql rfl rfl (qT (by omega))) rfl rfl ?_
      | refine qv rfl (rr_eql rfl rfl (qF (by omega))) rfl rfl ?_ | refine qv rfl (rr_neq rfl rfl (qT (by omega))) rfl rfl ?_
      | refine qv rfl (rr_neq rfl rfl (qF (by omega))) rfl rfl ?_)
    refine TL_new rfl fun g6 => ?_
    conv => arg 8; simp only [zA, zB, zC, zD, zE, zF, zG, zH, zI, rowS, ret, id_eq]
    refine TL_storeB (i := 11) (cs' := #[vrr, vtt]) rfl rfl rfl rfl (by simp only [List.all_cons, List.all_nil, a1, a2]; rfl) rfl ?_
    conv => arg 8; simp only [zA, zB, zC, zD, zE, zF, zG, zH, zI, rowS, ret, id_eq]
    repeat (first
      | refine qv rfl (qp rfl) rfl rfl ?_ | refine TL_nil ?_ | refine T_seq ?_ | refine T_region ?_ | refine qcT rfl ?_ | refine qcF rfl ?_ | refine T_skip ?_
      | refine T_ret ?_ | refine E_then ?_ | refine E_thenR ?_ | refine qv rfl (rr_loadB (i := 11) TyC.ty rfl rfl rfl) rfl rfl ?_
      | refine qv rfl (rr_eql (b := decide (e = 0)) rfl rfl rfl) rfl rfl ?_ | refine qv rfl (rr_eql rfl rfl (qT (by omega))) rfl rfl ?_
      | refine qv rfl (rr_eql rfl rfl (qF (by omega))) rfl rfl ?_ | refine qv rfl (rr_neq rfl rfl (qT (by omega))) rfl rfl ?_
      | refine qv rfl (rr_neq rfl rfl (qF (by omega))) rfl rfl ?_)
    refine TL_storeB (i := 0) (cs' := #[vrr, vtt]) rfl rfl rfl rfl (by simp only [List.all_cons, List.all_nil, a1, a2]; rfl) rfl ?_
    conv => arg 8; simp only [zA, zB, zC, zD, zE, zF, zG, zH, zI, rowS, ret, id_eq]
    repeat (first
      | refine qv rfl (qp rfl) rfl rfl ?_ | refine TL_nil ?_ | refine T_seq ?_ | refine T_region ?_ | refine qcT rfl ?_ | refine qcF rfl ?_ | refine T_skip ?_
      | refine T_ret ?_ | refine E_then ?_ | refine E_thenR ?_ | refine qv rfl (rr_eql rfl rfl (qT (by omega))) rfl rfl ?_
      | refine qv rfl (rr_eql rfl rfl (qF (by omega))) rfl rfl ?_ | refine qv rfl (rr_neq rfl rfl (qT (by omega))) rfl rfl ?_
      | refine qv rfl (rr_neq rfl rfl (qF (by omega))) rfl rfl ?_)
    exact E_retc2 (i := 0) rfl rfl rfl rfl rfl fun w hm => hm.meets (S := mdSp (R, T, decide (e = 0))) (vrr, vtt) trivial [9, 10] (by decide) rfl
end Go.Proofs.Ytknojgjdaafboaa.eng

/- PlacesG -/
namespace Go.Proofs.Ytknojgjdaafboaa.placesL
open classL rexL
/-- how many places -/
def npl : Re → Nat
  | .byte _ => 1
  | .cat a b => npl a + npl b
  | .alt a b => npl a + npl b
  | .star a => npl a
  | _ => 0
def empL : Re → Bool
  | .empty => true
  | .star _ => true
  | .cat a b => empL a && empL b
  | .alt a b => empL a || empL b
  | _ => false
def clsP : Re → List C4
  | .byte c => [c]
  | .cat a b => clsP a ++ clsP b
  | .alt a b => clsP a ++ clsP b
  | .star a => clsP a
  | _ => []
theorem clsP_len : ∀ e : Re, (clsP e).length = npl e
  | .none => rfl
  | .empty => rfl
  | .byte _ => rfl
  | .cat a b => by rw [clsP, npl, List.length_append, clsP_len a, clsP_len b]
  | .alt a b => by rw [clsP, npl, List.length_append, clsP_len a, clsP_len b]
  | .star a => by rw [clsP, npl, clsP_len a]
def Fst : Re → Nat → Nat → Prop
  | .byte _, n, x => x = n
  | .cat a b, n, x => Fst a n x ∨ (empL a = true ∧ Fst b (n + npl a) x)
  | .alt a b, n, x => Fst a n x ∨ Fst b (n + npl a) x
  | .star a, n, x => Fst a n x
  | .none, _, _ => False
  | .empty, _, _ => False
def Lst : Re → Nat → Nat → Prop
  | .byte _, n, x => x = n
  | .cat a b, n, x => Lst b (n + npl a) x ∨ (empL b = true ∧ Lst a n x)
  | .alt a b, n, x => Lst a n x ∨ Lst b (n + npl a) x
  | .star a, n, x => Lst a n x
  | .none, _, _ => False
  | .empty, _, _ => False
def Fol : Re → Nat → Nat → Nat → Prop
  | .cat a b, n, x, y => Fol a n x y ∨ Fol b (n + npl a) x y ∨ (Lst a n x ∧ Fst b (n + npl a) y)
  | .alt a b, n, x, y => Fol a n x y ∨ Fol b (n + npl a) x y
  | .star a, n, x, y => Fol a n x y ∨ (Lst a n x ∧ Fst a n y)
  | .byte _, _, _, _ => False
  | .none, _, _, _ => False
  | .empty, _, _, _ => False
theorem fst_in : ∀ (e : Re) {n x : Nat}, Fst e n x → n ≤ x ∧ x < n + npl e
  | .none, _, _, h => h.elim
  | .empty, _, _, h => h.elim
  | .byte _, n, x, h => by
    have h : x = n := h
    simp only [npl]; omega
  | .cat a b, n, x, h => by
    simp only [npl]
    rcases h with h | ⟨_, h⟩
    · have := fst_in a h; omega
    · have := fst_in b h; omega
  | .alt a b, n, x, h => by
    simp only [npl]
    rcases h with h | h
    · have := fst_in a h; omega
    · have := fst_in b h; omega
  | .star a, n, x, h => fst_in a h
theorem lst_in : ∀ (e : Re) {n x : Nat}, Lst e n x → n ≤ x ∧ x < n + npl e
  | .none, _, _, h => h.elim
  | .empty, _, _, h => h.elim
  | .byte _, n, x, h => by
    have h : x = n := h
    simp only [npl]; omega
  | .cat a b, n, x, h => by
    simp only [npl]
    rcases h with h | ⟨_, h⟩
    · have := lst_in b h; omega
    · have := lst_in a h; omega
  | .alt a b, n, x, h => by
    simp only [npl]
    rcases h with h | h
    · have := lst_in a h; omega
    · have := lst_in b h; omega
  | .star a, n, x, h => lst_in a h
theorem fol_in : ∀ (e : Re) {n x y : Nat}, Fol e n x y → (n ≤ x ∧ x < n + npl e) ∧ n ≤ y ∧ y < n + npl e
  | .none, _, _, _, h => h.elim
  | .empty, _, _, _, h => h.elim
  | .byte _, _, _, _, h => h.elim
  | .cat a b, n, x, y, h => by
    simp only [npl]
    rcases h with h | h | ⟨h, h'⟩
    · have := fol_in a h; omega
    · have := fol_in b h; omega
    · have := lst_in a h; have := fst_in b h'; omega
  | .alt a b, n, x, y, h => by
    simp only [npl]
    rcases h with h | h
    · have := fol_in a h; omega
    · have := fol_in b h; omega
  | .star a, n, x, y, h => by
    rcases h with h | ⟨h, h'⟩
    · exact fol_in a h
    · exact ⟨lst_in a h, fst_in a h'⟩
/-! ### words of places -/
inductive StarW (P : List Nat → Prop) : List Nat → Prop
  | nil : StarW P []
  | cons {u v : List Nat} : P u → StarW P v → StarW P (u ++ v)
def Wd : Re → Nat → List Nat → Prop
  | .none, _, _ => False
  | .empty, _, l => l = []
  | .byte _, n, l => l = [n]
  | .cat a b, n, l => ∃ u v, l = u ++ v ∧ Wd a n u ∧ Wd b (n + npl a) v
  | .alt a b, n, l => Wd a n l ∨ Wd b (n + npl a) l
  | .star a, n, l => StarW (Wd a n) l
/-- places one behind the other, up to one that may be the last -/
def Chn (F : Nat → Nat → Prop) (T : Nat → Prop) : Nat → List Nat → Prop
  | x, [] => T x
  | x, y :: r => F x y ∧ Chn F T y r
theorem Chn.mono {F F' : Nat → Nat → Prop} {T T' : Nat → Prop} (hF : ∀ x y, F x y → F' x y) (hT : ∀ x, T x → T' x) : ∀ {l : List Nat} {x : Nat}, Chn F T x l → Chn F' T' x l
  | [], _, h => hT _ h
  | _ :: _, _, ⟨h, h'⟩ => ⟨hF _ _ h, Chn.mono hF hT h'⟩
/-- one chain behind the other -/
theorem Chn.app {F F' : Nat → Nat → Prop} {T T' : Nat → Prop} (hF : ∀ x y, F x y → F' x y) {y : Nat} {r : List Nat} (hT : ∀ x, T x → F' x y) (hr : Chn F' T' y r) : ∀ {l : List Nat} {x : Nat}, Chn F T x l → Chn F' T' x (l ++ y :: r)
  | [], _, h => ⟨hT _ h, hr⟩
  | _ :: _, _, ⟨h, h'⟩ => ⟨hF _ _ h, Chn.app hF hT hr h'⟩
/-- GLUSHKOV: words of places are those that begin, go on and end as they may -/
theorem word_iff : ∀ (e : Re) (n : Nat), (Wd e n [] ↔ empL e = true) ∧ ∀ x l, Wd e n (x :: l) ↔ Fst e n x ∧ Chn (Fol e n) (Lst e n) x l
  | .none, n => ⟨⟨fun h => h.elim, fun h => by cases h⟩, fun x l => ⟨fun h => h.elim, fun h => h.1.elim⟩⟩
  | .empty, n => ⟨⟨fun _ => rfl, fun _ => rfl⟩, fun x l => ⟨fun h => (by cases (show x :: l = [] from h)), fun h => h.1.elim⟩⟩
  | .byte c, n => ⟨⟨fun h => (by cases (show ([] : List Nat) = [n] from h)), fun h => (by cases h)⟩, fun x l => ⟨fun h => (by cases (show x :: l = [n] from h); exact ⟨rfl, rfl⟩), fun ⟨h1, h2⟩ => by
      cases l with
      | nil => rw [show x = n from h1]; rfl
      | cons y r => exact h2.1.elim⟩⟩
  | .alt a b, n => by
    obtain ⟨a0, a1⟩ := word_iff a n
    obtain ⟨b0, b1⟩ := word_iff b (n + npl a)
    refine ⟨?_, fun x l => ?_⟩
    · show Wd a n [] ∨ Wd b (n + npl a) [] ↔ (empL a || empL b) = true
      rw [a0, b0, Bool.or_eq_true]
    · show Wd a n (x :: l) ∨ Wd b (n + npl a) (x :: l) ↔ _
      rw [a1, b1]
      constructor
      · rintro (⟨h, h'⟩ | ⟨h, h'⟩)
        · exact ⟨.inl h, h'.mono (fun _ _ => .inl) fun _ => .inl⟩
        · exact ⟨.inr h, h'.mono (fun _ _ => .inr) fun _ => .inr⟩
      · rintro ⟨h, h'⟩
        have key : ∀ l x, Chn (Fol (.alt a b) n) (Lst (.alt a b) n) x l → ((n ≤ x ∧ x < n + npl a) ∧ Chn (Fol a n) (Lst a n) x l) ∨ ((n + npl a ≤ x) ∧ Chn (Fol b (n + npl a)) (Lst b (n + npl a)) x l) := by
          intro l
          induction l with
          | nil =>
            rintro x (h | h)
            · exact .inl ⟨lst_in a h, h⟩
            · exact .inr ⟨(lst_in b h).1, h⟩
          | cons y r ih =>
            rintro x ⟨h, h'⟩
            rcases h with h | h
            · have hi := fol_in a h
              rcases ih y h' with ⟨q, q'⟩ | ⟨q, q'⟩
              · exact .inl ⟨hi.1, h, q'⟩
              · omega
            · have hi := fol_in b h
              rcases ih y h' with ⟨q, q'⟩ | ⟨q, q'⟩
              · omega
              · exact .inr ⟨hi.1.1, h, q'⟩
        rcases key l x h' with ⟨q, q'⟩ | ⟨q, q'⟩
        · rcases h with h | h
          · exact .inl ⟨h, q'⟩
          · have := fst_in b h; omega
        · rcases h with h | h
          · have := fst_in a h; omega
          · exact .inr ⟨h, q'⟩
  | .cat a b, n => by
    obtain ⟨a0, a1⟩ := word_iff a n
    obtain ⟨b0, b1⟩ := word_iff b (n + npl a)
    refine ⟨?_, fun x l => ?_⟩
    · show (∃ u v, [] = u ++ v ∧ Wd a n u ∧ Wd b (n + npl a) v) ↔ (empL a && empL b) = true
      rw [Bool.and_eq_true, ← a0, ← b0]
      constructor
      · rintro ⟨u, v, h, h1, h2⟩
        obtain ⟨rfl, rfl⟩ := List.append_eq_nil_iff.1 h.symm
        exact ⟨h1, h2⟩
      · rintro ⟨h1, h2⟩; exact ⟨[], [], rfl, h1, h2⟩
    · show (∃ u v, x :: l = u ++ v ∧ Wd a n u ∧ Wd b (n + npl a) v) ↔ _
      constructor
      · rintro ⟨u, v, h, h1, h2⟩
        cases u with
        | nil =>
          have h : x :: l = v := h
          subst h
          obtain ⟨q1, q2⟩ := (b1 x l).1 h2
          exact ⟨.inr ⟨a0.1 h1, q1⟩, q2.mono (fun _ _ h => .inr (.inl h)) fun _ => .inl⟩
        | cons z u =>
          obtain ⟨rfl, rfl⟩ : x = z ∧ l = u ++ v := by cases h; exact ⟨rfl, rfl⟩
          obtain ⟨q1, q2⟩ := (a1 x u).1 h1
          refine ⟨.inl q1, ?_⟩
          cases v with
          | nil =>
            rw [List.append_nil]
            exact q2.mono (fun _ _ => .inl) fun _ h => .inr ⟨b0.1 h2, h⟩
          | cons y r =>
            obtain ⟨q3, q4⟩ := (b1 y r).1 h2
            exact Chn.app (F' := Fol (.cat a b) n) (T' := Lst (.cat a b) n) (fun _ _ h => .inl h) (fun _ h => .inr (.inr ⟨h, q3⟩)) (q4.mono (fun _ _ h => .inr (.inl h)) fun _ h => .inl h) q2
      · rintro ⟨h, h'⟩
        have key : ∀ l x, Chn (Fol (.cat a b) n) (Lst (.cat a b) n) x l → ((n ≤ x ∧ x < n + npl a) ∧ ∃ u v, l = u ++ v ∧ Chn (Fol a n) (Lst a n) x u ∧ Wd b (n + npl a) v) ∨ ((n + npl a ≤ x) ∧ Chn (Fol b (n + npl a)) (Lst b (n + npl a)) x l) := by
          intro l
          induction l with
          | nil =>
            rintro x (h | ⟨h0, h⟩)
            · exact .inr ⟨(lst_in b h).1, h⟩
            · exact .inl ⟨lst_in a h, [], [], rfl, h, b0.2 h0⟩
          | cons y r ih =>
            rintro x ⟨h, h'⟩
            rcases h with h | h | ⟨h, h2⟩
            · have hi := fol_in a h
              rcases ih y h' with ⟨q, u, v, rfl, q1, q2⟩ | ⟨q, q'⟩
              · exact .inl ⟨hi.1, y :: u, v, rfl, ⟨h, q1⟩, q2⟩
              · omega
            · have hi := fol_in b h
              rcases ih y h' with ⟨q, _⟩ | ⟨q, q'⟩
              · omega
              · exact .inr ⟨hi.1.1, h, q'⟩
            · have hi := lst_in a h
              have hj := fst_in b h2
              rcases ih y h' with ⟨q, _⟩ | ⟨q, q'⟩
              · omega
              · exact .inl ⟨hi, [], y :: r, rfl, h, (b1 y r).2 ⟨h2, q'⟩⟩
        rcases key l x h' with ⟨q, u, v, rfl, q1, q2⟩ | ⟨q, q'⟩
        · rcases h with h | ⟨_, h⟩
          · exact ⟨x :: u, v, rfl, (a1 x u).2 ⟨h, q1⟩, q2⟩
          · have := fst_in b h; omega
        · rcases h with h | ⟨h0, h⟩
          · have := fst_in a h; omega
          · exact ⟨[], x :: l, rfl, a0.2 h0, (b1 x l).2 ⟨h, q'⟩⟩
  | .star a, n => by
    obtain ⟨a0, a1⟩ := word_iff a n
    refine ⟨⟨fun _ => rfl, fun _ => .nil⟩, fun x l => ?_⟩
    show StarW (Wd a n) (x :: l) ↔ _
    constructor
    · intro h
      have key : ∀ L, StarW (Wd a n) L → ∀ x l, L = x :: l → Fst a n x ∧ Chn (Fol (.star a) n) (Lst (.star a) n) x l := by
        intro L hL
        induction hL with
        | nil => intro x l h; cases h
        | @cons u v hu hv ih =>
          intro x l h
          cases u with
          | nil => exact ih x l h
          | cons z u =>
            obtain ⟨rfl, rfl⟩ : z = x ∧ u ++ v = l := by cases h; exact ⟨rfl, rfl⟩
            obtain ⟨q1, q2⟩ := (a1 z u).1 hu
            refine ⟨q1, ?_⟩
            cases v with
            | nil => rw [List.append_nil]; exact q2.mono (fun _ _ => .inl) fun _ h => h
            | cons y r =>
              obtain ⟨q3, q4⟩ := ih y r rfl
              exact Chn.app (F' := Fol (.star a) n) (T' := Lst (.star a) n) (fun _ _ h => .inl h) (fun _ h => .inr ⟨h, q3⟩) q4 q2
      exact key _ h x l rfl
    · rintro ⟨h, h'⟩
      have key : ∀ l x, Chn (Fol (.star a) n) (Lst (.star a) n) x l → ∃ u v, l = u ++ v ∧ Chn (Fol a n) (Lst a n) x u ∧ StarW (Wd a n) v := by
        intro l
        induction l with
        | nil => intro x h; exact ⟨[], [], rfl, h, .nil⟩
        | cons y r ih =>
          rintro x ⟨h, h'⟩
          obtain ⟨u, v, rfl, q1, q2⟩ := ih y h'
          rcases h with h | ⟨h, h2⟩
          · exact ⟨y :: u, v, rfl, ⟨h, q1⟩, q2⟩
          · exact ⟨[], y :: u ++ v, rfl, h, .cons ((a1 y u).2 ⟨h2, q1⟩) q2⟩
      obtain ⟨u, v, rfl, q1, q2⟩ := key l x h'
      exact .cons (u := x :: u) ((a1 x u).2 ⟨h, q1⟩) q2
/-! ### texts -/
/-- each place's class has its byte -/
def Mt (K : Nat → Nat → Prop) : List UInt8 → List Nat → Prop
  | [], [] => True
  | b :: s, x :: l => K x b.toNat ∧ Mt K s l
  | _, _ => False
theorem mt_app {K : Nat → Nat → Prop} : ∀ {s : List UInt8} {l : List Nat} {s' : List UInt8} {l' : List Nat}, Mt K s l → Mt K s' l' → Mt K (s ++ s') (l ++ l')
  | [], [], _, _, _, h' => h'
  | b :: s, x :: l, _, _, ⟨h, h1⟩, h' => ⟨h, mt_app h1 h'⟩
  | [], x :: l, _, _, h, _ => h.elim
  | b :: s, [], _, _, h, _ => h.elim
theorem mt_cut {K : Nat → Nat → Prop} : ∀ {l : List Nat} {s : List UInt8} {l' : List Nat}, Mt K s (l ++ l') → ∃ u v, s = u ++ v ∧ Mt K u l ∧ Mt K v l'
  | [], s, _, h => ⟨[], s, rfl, trivial, h⟩
  | x :: l, [], _, h => h.elim
  | x :: l, b :: s, _, ⟨h, h'⟩ => by
    obtain ⟨u, v, rfl, h1, h2⟩ := mt_cut h'
    exact ⟨b :: u, v, rfl, ⟨h, h1⟩, h2⟩
/-- the classes are those of the places -/
def Ag (K : Nat → Nat → Prop) : Re → Nat → Prop
  | .byte c, n => ∀ b, K n b ↔ c.mem b = true
  | .cat a b, n => Ag K a n ∧ Ag K b (n + npl a)
  | .alt a b, n => Ag K a n ∧ Ag K b (n + npl a)
  | .star a, n => Ag K a n
  | _, _ => True
theorem lang_iff {K : Nat → Nat → Prop} : ∀ (e : Re) (n : Nat) (s : List UInt8), Ag K e n → (Lang e s ↔ ∃ l, Wd e n l ∧ Mt K s l)
  | .none, n, s, _ => ⟨fun h => h.elim, fun ⟨_, h, _⟩ => h.elim⟩
  | .empty, n, s, _ => by
    constructor
    · intro h; rw [show s = [] from h]; exact ⟨[], rfl, trivial⟩
    · rintro ⟨l, h, h'⟩
      rw [show l = [] from h] at h'
      cases s with
      | nil => rfl
      | cons b s => exact h'.elim
  | .byte c, n, s, hK => by
    have hK : ∀ b, K n b ↔ c.mem b = true := hK
    constructor
    · rintro ⟨b, rfl, h⟩
      exact ⟨[n], rfl, (hK _).2 h, trivial⟩
    · rintro ⟨l, h, h'⟩
      rw [show l = [n] from h] at h'
      match s, h' with
      | [b], ⟨h1, _⟩ => exact ⟨b, rfl, (hK _).1 h1⟩
  | .cat a b, n, s, hK => by
    constructor
    · rintro ⟨u, v, rfl, h1, h2⟩
      obtain ⟨l1, q1, q2⟩ := (lang_iff a n u hK.1).1 h1
      obtain ⟨l2, q3, q4⟩ := (lang_iff b (n + npl a) v hK.2).1 h2
      exact ⟨l1 ++ l2, ⟨l1, l2, rfl, q1, q3⟩, mt_app q2 q4⟩
    · rintro ⟨l, ⟨l1, l2, rfl, q1, q3⟩, h⟩
      obtain ⟨u, v, rfl, h1, h2⟩ := mt_cut h
      exact ⟨u, v, rfl, (lang_iff a n u hK.1).2 ⟨l1, q1, h1⟩, (lang_iff b (n + npl a) v hK.2).2 ⟨l2, q3, h2⟩⟩
  | .alt a b, n, s, hK => by
    show Lang a s ∨ Lang b s ↔ ∃ l, (Wd a n l ∨ Wd b (n + npl a) l) ∧ Mt K s l
    rw [lang_iff a n s hK.1, lang_iff b (n + npl a) s hK.2]
    constructor
    · rintro (⟨l, h, h'⟩ | ⟨l, h, h'⟩)
      · exact ⟨l, .inl h, h'⟩
      · exact ⟨l, .inr h, h'⟩
    · rintro ⟨l, h | h, h'⟩
      · exact .inl ⟨l, h, h'⟩
      · exact .inr ⟨l, h, h'⟩
  | .star a, n, s, hK => by
    have ih := fun s => lang_iff a n s hK
    constructor
    · intro h
      have key : ∀ s, Star (Lang a) s → ∃ l, StarW (Wd a n) l ∧ Mt K s l := by
        intro s h
        induction h with
        | nil => exact ⟨[], .nil, trivial⟩
        | @cons u v hu hv ih2 =>
          obtain ⟨l1, q1, q2⟩ := (ih u).1 hu
          obtain ⟨l2, q3, q4⟩ := ih2
          exact ⟨l1 ++ l2, .cons q1 q3, mt_app q2 q4⟩
      exact key s h
    · rintro ⟨l, h, h'⟩
      have key : ∀ l, StarW (Wd a n) l → ∀ s, Mt K s l → Star (Lang a) s := by
        intro l h
        induction h with
        | nil =>
          intro s h'
          cases s with
          | nil => exact .nil
          | cons b s => exact h'.elim
        | @cons u v hu hv ih2 =>
          intro s h'
          obtain ⟨s1, s2, rfl, h1, h2⟩ := mt_cut h'
          exact .cons ((ih s1).2 ⟨u, hu, h1⟩) (ih2 s2 h2)
      exact key l h s h'
/-! ### sets of places, byte by byte -/
def stepS (F K : Nat → Nat → Prop) (S : Nat → Prop) (b : UInt8) : Nat → Prop := fun y => (∃ x, S x ∧ F x y) ∧ K y b.toNat
def runS (F K : Nat → Nat → Prop) (I : Nat → Prop) : List UInt8 → Nat → Prop
  | [] => fun _ => False
  | b :: s => s.foldl (stepS F K) fun y => I y ∧ K y b.toNat
theorem foldS_iff {F K : Nat → Nat → Prop} {T : Nat → Prop} : ∀ (s : List UInt8) (S : Nat → Prop), (∃ x, s.foldl (stepS F K) S x ∧ T x) ↔ ∃ x, S x ∧ ∃ l, Mt K s l ∧ Chn F T x l
  | [], S => by
    constructor
    · rintro ⟨x, h, h'⟩; exact ⟨x, h, [], trivial, h'⟩
    · rintro ⟨x, h, l, h1, h2⟩
      cases l with
      | nil => exact ⟨x, h, h2⟩
      | cons y r => exact h1.elim
  | b :: s, S => by
    rw [List.foldl_cons, foldS_iff s]
    constructor
    · rintro ⟨y, ⟨⟨x, h1, h2⟩, h3⟩, l, h4, h5⟩
      exact ⟨x, h1, y :: l, ⟨h3, h4⟩, h2, h5⟩
    · rintro ⟨x, h, l, h1, h2⟩
      cases l with
      | nil => exact h1.elim
      | cons y r => exact ⟨y, ⟨⟨x, h, h2.1⟩, h1.1⟩, r, h1.2, h2.2⟩
theorem runS_iff {F K : Nat → Nat → Prop} {I T : Nat → Prop} {s : List UInt8} (hs : s ≠ []) : (∃ x, runS F K I s x ∧ T x) ↔ ∃ x l, Mt K s (x :: l) ∧ I x ∧ Chn F T x l := by
  cases s with
  | nil => exact absurd rfl hs
  | cons b s =>
    show (∃ x, s.foldl (stepS F K) (fun y => I y ∧ K y b.toNat) x ∧ T x) ↔ _
    rw [foldS_iff]
    constructor
    · rintro ⟨x, ⟨h1, h2⟩, l, h3, h4⟩; exact ⟨x, l, ⟨h2, h3⟩, h1, h4⟩
    · rintro ⟨x, l, ⟨h2, h3⟩, h1, h4⟩; exact ⟨x, ⟨h1, h2⟩, l, h3, h4⟩
/-- one expression -/
theorem runS_lang {K : Nat → Nat → Prop} {e : Re} {n : Nat} (hK : Ag K e n) {s : List UInt8} (hs : s ≠ []) : (∃ x, runS (Fol e n) K (Fst e n) s x ∧ Lst e n x) ↔ Lang e s := by
  rw [runS_iff hs, lang_iff e n s hK]
  constructor
  · rintro ⟨x, l, h1, h2, h3⟩; exact ⟨x :: l, ((word_iff e n).2 x l).2 ⟨h2, h3⟩, h1⟩
  · rintro ⟨l, h1, h2⟩
    cases l with
    | nil =>
      cases s with
      | nil => exact absurd rfl hs
      | cons b s => exact h2.elim
    | cons x l =>
      obtain ⟨q1, q2⟩ := ((word_iff e n).2 x l).1 h1
      exact ⟨x, l, h2, q1, q2⟩
theorem lang_nil : ∀ e : Re, Lang e [] ↔ empL e = true
  | .none => ⟨fun h => h.elim, fun h => by cases h⟩
  | .empty => ⟨fun _ => rfl, fun _ => rfl⟩
  | .byte c => ⟨fun ⟨b, h, _⟩ => (by cases h), fun h => by cases h⟩
  | .cat a b => by
    show (∃ u v, [] = u ++ v ∧ Lang a u ∧ Lang b v) ↔ (empL a && empL b) = true
    rw [Bool.and_eq_true, ← lang_nil a, ← lang_nil b]
    constructor
    · rintro ⟨u, v, h, h1, h2⟩
      obtain ⟨rfl, rfl⟩ := List.append_eq_nil_iff.1 h.symm
      exact ⟨h1, h2⟩
    · rintro ⟨h1, h2⟩; exact ⟨[], [], rfl, h1, h2⟩
  | .alt a b => by
    show Lang a [] ∨ Lang b [] ↔ (empL a || empL b) = true
    rw [Bool.or_eq_true, ← lang_nil a, ← lang_nil b]
  | .star a => ⟨fun _ => rfl, fun _ => .nil⟩
end Go.Proofs.Ytknojgjdaafboaa.placesL

/- PlacesH -/
namespace Go.Proofs.Ytknojgjdaafboaa.placesL
open classL rexL
theorem behind_get {first : List Int} : ∀ (last : List Int) (fol : List (List Int)) (x : Nat) (y : Int), (∀ z ∈ last, 0 ≤ z ∧ z < fol.length) → (y ∈ (behindF fol last first).getD x [] ↔ y ∈ fol.getD x [] ∨ ((x : Int) ∈ last ∧ y ∈ first))
  | [], fol, x, y, _ => ⟨.inl, fun h => h.elim id fun h => by cases h.1⟩
  | z :: last, fol, x, y, h => by
    have hz := h z (List.mem_cons_self ..)
    show y ∈ (behindF (fol.set z.toNat (uni (fol.getD z.toNat []) first)) last first).getD x [] ↔ _
    rw [behind_get last _ x y (fun q hq => by rw [List.length_set]; exact h q (List.mem_cons_of_mem _ hq)), set_getD]
    by_cases c : z.toNat = x ∧ x < fol.length
    · rw [if_pos c, (uni_law _ _).2, c.1]
      have hzx : (x : Int) = z := by omega
      constructor
      · rintro ((h1 | h1) | ⟨h1, h2⟩)
        · exact .inl h1
        · exact .inr ⟨by rw [hzx]; exact List.mem_cons_self .., h1⟩
        · exact .inr ⟨List.mem_cons_of_mem _ h1, h2⟩
      · rintro (h1 | ⟨_, h2⟩)
        · exact .inl (.inl h1)
        · exact .inl (.inr h2)
    · rw [if_neg c]
      have hne : (x : Int) ≠ z := fun e => c ⟨by omega, by omega⟩
      constructor
      · rintro (h1 | ⟨h1, h2⟩)
        · exact .inl h1
        · exact .inr ⟨List.mem_cons_of_mem _ h1, h2⟩
      · rintro (h1 | ⟨h1, h2⟩)
        · exact .inl h1
        · rcases List.mem_cons.1 h1 with e | e
          · exact absurd e hne
          · exact .inr ⟨e, h2⟩
structure NodeL (rule : Int) (e : Re) (p : PS) (R : Shape × PS) : Prop where
  cls : R.2.classes = p.classes ++ clsP e
  rules : R.2.rules = p.rules ++ List.replicate (npl e) rule
  lasts : R.2.last = p.last ++ List.replicate (npl e) false
  empty : R.1.empty = empL e
  first : ∀ x : Int, x ∈ R.1.first ↔ ∃ k : Nat, x = k ∧ Fst e p.classes.length k
  last : ∀ x : Int, x ∈ R.1.last ↔ ∃ k : Nat, x = k ∧ Lst e p.classes.length k
  follow : ∀ (x : Nat) (y : Int), y ∈ R.2.follow.getD x [] ↔ y ∈ p.follow.getD x [] ∨ ∃ k : Nat, y = k ∧ Fol e p.classes.length x k
theorem node_law (rule : Int) : ∀ (e : Re) (p : PS), PSOk p → NodeL rule e p (nodeF rule e p)
  | .empty, p, _ => ⟨(List.append_nil _).symm, (List.append_nil _).symm, (List.append_nil _).symm, rfl, fun x => ⟨fun h => (by cases h), fun ⟨_, _, h⟩ => h.elim⟩, fun x => ⟨fun h => (by cases h), fun ⟨_, _, h⟩ => h.elim⟩, fun x y => ⟨.inl, fun h => h.elim id fun ⟨_, _, h⟩ => h.elim⟩⟩
  | .none, p, _ => ⟨(List.append_nil _).symm, (List.append_nil _).symm, (List.append_nil _).symm, rfl, fun x => ⟨fun h => (by cases h), fun ⟨_, _, h⟩ => h.elim⟩, fun x => ⟨fun h => (by cases h), fun ⟨_, _, h⟩ => h.elim⟩, fun x y => ⟨.inl, fun h => h.elim id fun ⟨_, _, h⟩ => h.elim⟩⟩
  | .byte c, p, hp => by
    have h1 : ∀ x : Int, x ∈ [(p.classes.length : Int)] ↔ ∃ k : Nat, x = k ∧ k = p.classes.length := fun x => by
      rw [List.mem_singleton]
      exact ⟨fun h => ⟨_, h, rfl⟩, fun ⟨k, h, h'⟩ => by rw [h, h']⟩
    refine ⟨rfl, rfl, rfl, rfl, h1, h1, fun x y => ?_⟩
    show y ∈ (p.follow ++ [[]]).getD x [] ↔ _
    have e : (p.follow ++ [[]]).getD x [] = p.follow.getD x [] := by
      rw [List.getD_eq_getElem?_getD, List.getD_eq_getElem?_getD]
      by_cases c1 : x < p.follow.length
      · rw [List.getElem?_append_left c1]
      · rw [List.getElem?_append_right (by omega), List.getElem?_eq_none (l := p.follow) (by omega)]
        by_cases c2 : x - p.follow.length = 0
        · rw [c2]; rfl
        · rw [List.getElem?_eq_none (by simp; omega)]
    rw [e]
    exact ⟨.inl, fun h => h.elim id fun ⟨_, _, h⟩ => h.elim⟩
  | .star a, p, hp => by
    have ha := node_law rule a p hp
    obtain ⟨k1, k2, k3, k4, k5⟩ := node_ok rule a p hp
    refine ⟨ha.cls, ha.rules, ha.lasts, rfl, ha.first, ha.last, fun x y => ?_⟩
    show y ∈ (behindF _ _ _).getD x [] ↔ _
    rw [behind_get _ _ x y (fun z hz => by have := k5.2 z hz; rw [k1.follow]; exact this), ha.follow, ha.last, ha.first]
    constructor
    · rintro ((h | ⟨k, h, h'⟩) | ⟨⟨k, h1, h2⟩, q, h3, h4⟩)
      · exact .inl h
      · exact .inr ⟨k, h, .inl h'⟩
      · obtain rfl : x = k := by omega
        exact .inr ⟨q, h3, .inr ⟨h2, h4⟩⟩
    · rintro (h | ⟨k, h, h' | ⟨h1, h2⟩⟩)
      · exact .inl (.inl h)
      · exact .inl (.inr ⟨k, h, h'⟩)
      · exact .inr ⟨⟨x, rfl, h1⟩, k, h, h2⟩
  | .alt a b, p, hp => by
    have ha := node_law rule a p hp
    obtain ⟨k1, k2, k3, k4, k5⟩ := node_ok rule a p hp
    have hb := node_law rule b _ k1
    have hn : (nodeF rule a p).2.classes.length = p.classes.length + npl a := by rw [ha.cls, List.length_append, clsP_len]
    have b5 := hb.first
    have b6 := hb.last
    have b7 := hb.follow
    rw [hn] at b5 b6 b7
    refine ⟨?_, ?_, ?_, ?_, fun x => ?_, fun x => ?_, fun x y => ?_⟩
    · exact hb.cls.trans (by rw [ha.cls, List.append_assoc]; rfl)
    · exact hb.rules.trans (by rw [ha.rules, List.append_assoc, List.replicate_append_replicate]; rfl)
    · exact hb.lasts.trans (by rw [ha.lasts, List.append_assoc, List.replicate_append_replicate]; rfl)
    · show ((nodeF rule a p).1.empty || (nodeF rule b (nodeF rule a p).2).1.empty) = _
      rw [ha.empty, hb.empty]; rfl
    · show x ∈ uni _ _ ↔ _
      rw [(uni_law _ _).2, ha.first, b5]
      constructor
      · rintro (⟨k, h, h'⟩ | ⟨k, h, h'⟩)
        · exact ⟨k, h, .inl h'⟩
        · exact ⟨k, h, .inr h'⟩
      · rintro ⟨k, h, h' | h'⟩
        · exact .inl ⟨k, h, h'⟩
        · exact .inr ⟨k, h, h'⟩
    · show x ∈ uni _ _ ↔ _
      rw [(uni_law _ _).2, ha.last, b6]
      constructor
      · rintro (⟨k, h, h'⟩ | ⟨k, h, h'⟩)
        · exact ⟨k, h, .inl h'⟩
        · exact ⟨k, h, .inr h'⟩
      · rintro ⟨k, h, h' | h'⟩
        · exact .inl ⟨k, h, h'⟩
        · exact .inr ⟨k, h, h'⟩
    · show y ∈ (nodeF rule b (nodeF rule a p).2).2.follow.getD x [] ↔ _
      rw [b7, ha.follow]
      constructor
      · rintro ((h | ⟨k, h, h'⟩) | ⟨k, h, h'⟩)
        · exact .inl h
        · exact .inr ⟨k, h, .inl h'⟩
        · exact .inr ⟨k, h, .inr h'⟩
      · rintro (h | ⟨k, h, h' | h'⟩)
        · exact .inl (.inl h)
        · exact .inl (.inr ⟨k, h, h'⟩)
        · exact .inr ⟨k, h, h'⟩
  | .cat a b, p, hp => by
    have ha := node_law rule a p hp
    obtain ⟨k1, k2, k3, k4, k5⟩ := node_ok rule a p hp
    have hb := node_law rule b _ k1
    obtain ⟨l1, l2, l3, l4, l5⟩ := node_ok rule b _ k1
    have hn : (nodeF rule a p).2.classes.length = p.classes.length + npl a := by rw [ha.cls, List.length_append, clsP_len]
    have b5 := hb.first
    have b6 := hb.last
    have b7 := hb.follow
    rw [hn] at b5 b6 b7
    refine ⟨?_, ?_, ?_, ?_, fun x => ?_, fun x => ?_, fun x y => ?_⟩
    · exact hb.cls.trans (by rw [ha.cls, List.append_assoc]; rfl)
    · exact hb.rules.trans (by rw [ha.rules, List.append_assoc, List.replicate_append_replicate]; rfl)
    · exact hb.lasts.trans (by rw [ha.lasts, List.append_assoc, List.replicate_append_replicate]; rfl)
    · show ((nodeF rule a p).1.empty && (nodeF rule b (nodeF rule a p).2).1.empty) = _
      rw [ha.empty, hb.empty]; rfl
    · show x ∈ (if (nodeF rule a p).1.empty then uni _ _ else _) ↔ ∃ k : Nat, x = k ∧ (Fst a p.classes.length k ∨ (empL a = true ∧ Fst b (p.classes.length + npl a) k))
      rw [ha.empty]
      by_cases c : empL a = true
      · rw [if_pos c, (uni_law _ _).2, ha.first, b5]
        constructor
        · rintro (⟨k, h, h'⟩ | ⟨k, h, h'⟩)
          · exact ⟨k, h, .inl h'⟩
          · exact ⟨k, h, .inr ⟨c, h'⟩⟩
        · rintro ⟨k, h, h' | h'⟩
          · exact .inl ⟨k, h, h'⟩
          · exact .inr ⟨k, h, h'.2⟩
      · rw [if_neg c, ha.first]
        constructor
        · rintro ⟨k, h, h'⟩; exact ⟨k, h, .inl h'⟩
        · rintro ⟨k, h, h' | h'⟩
          · exact ⟨k, h, h'⟩
          · exact absurd h'.1 c
    · show x ∈ (if (nodeF rule b (nodeF rule a p).2).1.empty then uni _ _ else _) ↔ ∃ k : Nat, x = k ∧ (Lst b (p.classes.length + npl a) k ∨ (empL b = true ∧ Lst a p.classes.length k))
      rw [hb.empty]
      by_cases c : empL b = true
      · rw [if_pos c, (uni_law _ _).2, ha.last, b6]
        constructor
        · rintro (⟨k, h, h'⟩ | ⟨k, h, h'⟩)
          · exact ⟨k, h, .inr ⟨c, h'⟩⟩
          · exact ⟨k, h, .inl h'⟩
        · rintro ⟨k, h, h' | h'⟩
          · exact .inr ⟨k, h, h'⟩
          · exact .inl ⟨k, h, h'.2⟩
      · rw [if_neg c, b6]
        constructor
        · rintro ⟨k, h, h'⟩; exact ⟨k, h, .inl h'⟩
        · rintro ⟨k, h, h' | h'⟩
          · exact ⟨k, h, h'⟩
          · exact absurd h'.1 c
    · show y ∈ (behindF _ _ _).getD x [] ↔ _
      rw [behind_get _ _ x y (fun z hz => by have := k5.2 z hz; rw [l1.follow]; omega), b7, ha.follow, ha.last, b5]
      constructor
      · rintro (((h | ⟨k, h, h'⟩) | ⟨k, h, h'⟩) | ⟨⟨k, h1, h2⟩, q, h3, h4⟩)
        · exact .inl h
        · exact .inr ⟨k, h, .inl h'⟩
        · exact .inr ⟨k, h, .inr (.inl h')⟩
        · obtain rfl : x = k := by omega
          exact .inr ⟨q, h3, .inr (.inr ⟨h2, h4⟩)⟩
      · rintro (h | ⟨k, h, h' | h' | ⟨h1, h2⟩⟩)
        · exact .inl (.inl (.inl h))
        · exact .inl (.inl (.inr ⟨k, h, h'⟩))
        · exact .inl (.inr ⟨k, h, h'⟩)
        · exact .inr ⟨⟨x, rfl, h1⟩, k, h, h2⟩
/-! ### rule by rule -/
def plc (es : List Re) : Nat := (es.map npl).sum
/-- rule i is e, its places begin at n -/
def RuleAt (es : List Re) (i n : Nat) (e : Re) : Prop := es[i]? = some e ∧ n = plc (es.take i)
theorem ruleAt_snoc {es : List Re} {e e' : Re} {i n : Nat} : RuleAt (es ++ [e]) i n e' ↔ RuleAt es i n e' ∨ (i = es.length ∧ n = plc es ∧ e' = e) := by
  unfold RuleAt
  by_cases c : i < es.length
  · rw [List.getElem?_append_left c, List.take_append_of_le_length (by omega)]
    exact ⟨.inl, fun h => h.elim id fun h => by omega⟩
  · by_cases c2 : i = es.length
    · subst c2
      rw [List.getElem?_append_right (Nat.le_refl _), Nat.sub_self, List.take_append_of_le_length (Nat.le_refl _), List.take_of_length_le (Nat.le_refl _), List.getElem?_eq_none (l := es) (Nat.le_refl _)]
      constructor
      · rintro ⟨h1, h2⟩; cases h1; exact .inr ⟨rfl, h2, rfl⟩
      · rintro (h | ⟨_, h2, rfl⟩)
        · cases h.1
        · exact ⟨rfl, h2⟩
    · rw [List.getElem?_eq_none (by simp; omega), List.getElem?_eq_none (l := es) (by omega)]
      constructor
      · rintro ⟨h1, _⟩; cases h1
      · rintro (⟨h1, _⟩ | h)
        · cases h1
        · exact absurd h.1 c2
structure InvL (es : List Re) (m : MS) : Prop where
  cls : m.ps.classes = es.flatMap clsP
  rules : ∀ i n e, RuleAt es i n e → ∀ x, n ≤ x → x < n + npl e → m.ps.rules.getD x 0 = i
  first : ∀ x : Int, x ∈ m.first ↔ ∃ k : Nat, x = k ∧ ∃ i n e, RuleAt es i n e ∧ Fst e n k
  follow : ∀ (x : Nat) (y : Int), y ∈ m.ps.follow.getD x [] ↔ ∃ k : Nat, y = k ∧ ∃ i n e, RuleAt es i n e ∧ Fol e n x k
  last : ∀ x : Nat, m.ps.last.getD x false = true ↔ ∃ i n e, RuleAt es i n e ∧ Lst e n x
  empty : m.empty = es.map empL
theorem mark_get : ∀ (l : List Int) (last : List Bool) (j : Nat), (∀ x ∈ l, 0 ≤ x ∧ x < last.length) → ((markF last l).getD j false = true ↔ last.getD j false = true ∨ (j : Int) ∈ l)
  | [], last, j, _ => ⟨.inl, fun h => h.elim id fun h => by cases h⟩
  | x :: l, last, j, h => by
    have hx := h x (List.mem_cons_self ..)
    show (markF (last.set x.toNat true) l).getD j false = true ↔ _
    rw [mark_get l _ j (fun y hy => by rw [List.length_set]; exact h y (List.mem_cons_of_mem _ hy)), set_getD]
    by_cases c : x.toNat = j ∧ j < last.length
    · rw [if_pos c]
      have hxj : (j : Int) = x := by omega
      exact ⟨fun _ => .inr (by rw [hxj]; exact List.mem_cons_self ..), fun _ => .inl rfl⟩
    · rw [if_neg c]
      have hne : (j : Int) ≠ x := fun e => c ⟨by omega, by omega⟩
      constructor
      · rintro (h1 | h1)
        · exact .inl h1
        · exact .inr (List.mem_cons_of_mem _ h1)
      · rintro (h1 | h1)
        · exact .inl h1
        · rcases List.mem_cons.1 h1 with e | e
          · exact absurd e hne
          · exact .inr e
theorem cls_plc : ∀ es : List Re, (es.flatMap clsP).length = plc es
  | [] => rfl
  | e :: es => by
    rw [List.flatMap_cons, List.length_append, clsP_len, cls_plc es]
    unfold plc; simp
theorem app_getD {α : Type} {l r : List α} {d : α} {x : Nat} : (l ++ r).getD x d = if x < l.length then l.getD x d else r.getD (x - l.length) d := by
  rw [List.getD_eq_getElem?_getD, List.getD_eq_getElem?_getD, List.getD_eq_getElem?_getD]
  by_cases c : x < l.length
  · rw [if_pos c, List.getElem?_append_left c]
  · rw [if_neg c, List.getElem?_append_right (by omega)]
theorem rep_getD {α : Type} {n x : Nat} {a d : α} : (List.replicate n a).getD x d = if x < n then a else d := by
  rw [List.getD_eq_getElem?_getD, List.getElem?_replicate]
  split <;> rfl
theorem ruleAt_in {es : List Re} {i n : Nat} {e : Re} (h : RuleAt es i n e) : n + npl e ≤ plc es := by
  obtain ⟨h1, rfl⟩ := h
  obtain ⟨hi, rfl⟩ := List.getElem?_eq_some_iff.1 h1
  have e0 : es = es.take i ++ es[i] :: es.drop (i + 1) := by rw [List.getElem_cons_drop, List.take_append_drop]
  have : plc es = plc (es.take i) + npl es[i] + plc (es.drop (i + 1)) := by
    conv => lhs; rw [e0]
    unfold plc
    rw [List.map_append, List.sum_append, List.map_cons, List.sum_cons]; omega
  omega
theorem inv_step {es : List Re} {m : MS} (h : MSOk m) (hi : InvL es m) (e : Re) : InvL (es ++ [e]) (stepM es.length m e) := by
  have hl := node_law es.length e m.ps h.ps
  obtain ⟨k1, k2, k3, k4, k5⟩ := node_ok es.length e m.ps h.ps
  have hn : m.ps.classes.length = plc es := by rw [hi.cls, cls_plc]
  have l5 := hl.first
  have l6 := hl.last
  have l7 := hl.follow
  rw [hn] at l5 l6 l7
  refine ⟨?_, ?_, fun x => ?_, fun x y => ?_, fun x => ?_, ?_⟩
  · show (nodeF es.length e m.ps).2.classes = _
    rw [hl.cls, hi.cls, List.flatMap_append]; simp
  · intro i n e' hr x h1 h2
    show (nodeF es.length e m.ps).2.rules.getD x 0 = i
    rw [hl.rules, app_getD, h.ps.rules, hn]
    rcases ruleAt_snoc.1 hr with hr | ⟨rfl, rfl, rfl⟩
    · have := ruleAt_in hr
      rw [if_pos (by omega)]
      exact hi.rules i n e' hr x h1 h2
    · rw [if_neg (by omega), rep_getD, if_pos (by omega)]
  · show x ∈ uni _ _ ↔ _
    rw [(uni_law _ _).2, hi.first, l5]
    constructor
    · rintro (⟨k, h, i, n, e', h1, h2⟩ | ⟨k, h, h'⟩)
      · exact ⟨k, h, i, n, e', ruleAt_snoc.2 (.inl h1), h2⟩
      · exact ⟨k, h, _, _, e, ruleAt_snoc.2 (.inr ⟨rfl, rfl, rfl⟩), h'⟩
    · rintro ⟨k, h, i, n, e', h1, h2⟩
      rcases ruleAt_snoc.1 h1 with h1 | ⟨rfl, rfl, rfl⟩
      · exact .inl ⟨k, h, i, n, e', h1, h2⟩
      · exact .inr ⟨k, h, h2⟩
  · show y ∈ (nodeF es.length e m.ps).2.follow.getD x [] ↔ _
    rw [l7, hi.follow]
    constructor
    · rintro (⟨k, h, i, n, e', h1, h2⟩ | ⟨k, h, h'⟩)
      · exact ⟨k, h, i, n, e', ruleAt_snoc.2 (.inl h1), h2⟩
      · exact ⟨k, h, _, _, e, ruleAt_snoc.2 (.inr ⟨rfl, rfl, rfl⟩), h'⟩
    · rintro ⟨k, h, i, n, e', h1, h2⟩
      rcases ruleAt_snoc.1 h1 with h1 | ⟨rfl, rfl, rfl⟩
      · exact .inl ⟨k, h, i, n, e', h1, h2⟩
      · exact .inr ⟨k, h, h2⟩
  · show (markF _ _).getD x false = true ↔ _
    rw [mark_get _ _ x (fun z hz => by have := k5.2 z hz; rw [k1.last]; exact this), l6, hl.lasts, app_getD, h.ps.last, hn]
    have hx : (if x < plc es then m.ps.last.getD x false else (List.replicate (npl e) false).getD (x - plc es) false) = true ↔ m.ps.last.getD x false = true := by
      by_cases c : x < plc es
      · rw [if_pos c]
      · rw [if_neg c, rep_getD]
        have : m.ps.last.getD x false = false := by rw [List.getD_eq_getElem?_getD, List.getElem?_eq_none (by rw [h.ps.last, hn]; omega)]; rfl
        rw [this]
        split <;> rfl
    rw [hx, hi.last]
    constructor
    · rintro (⟨i, n, e', h1, h2⟩ | ⟨k, h, h'⟩)
      · exact ⟨i, n, e', ruleAt_snoc.2 (.inl h1), h2⟩
      · obtain rfl : x = k := by omega
        exact ⟨_, _, e, ruleAt_snoc.2 (.inr ⟨rfl, rfl, rfl⟩), h'⟩
    · rintro ⟨i, n, e', h1, h2⟩
      rcases ruleAt_snoc.1 h1 with h1 | ⟨rfl, rfl, rfl⟩
      · exact .inl ⟨i, n, e', h1, h2⟩
      · exact .inr ⟨x, rfl, h2⟩
  · show m.empty ++ [(nodeF es.length e m.ps).1.empty] = _
    rw [hi.empty, hl.empty, List.map_append]; rfl
theorem inv_zero : InvL [] .zero :=
  ⟨rfl, fun i n e h => (by cases h.1), fun x => ⟨fun h => (by cases h), fun ⟨_, _, i, n, e, h, _⟩ => (by cases h.1)⟩, fun x y => ⟨fun h => (by cases h), fun ⟨_, _, i, n, e, h, _⟩ => (by cases h.1)⟩, fun x => ⟨fun h => (by cases h), fun ⟨i, n, e, h, _⟩ => (by cases h.1)⟩, rfl⟩
theorem inv_loop : ∀ (r es : List Re) (m m' : MS), MSOk m → InvL es m → loopM es.length m r = (0, m') → InvL (es ++ r) m'
  | [], es, m, m', _, h2, h => by cases h; rw [List.append_nil]; exact h2
  | e :: r, es, m, m', h1, h2, h => by
    rw [loopM] at h
    split at h
    · cases h
    · have := inv_loop r (es ++ [e]) (stepM es.length m e) m' (step_ok _ h1 e).1 (inv_step h1 h2 e) (by rw [List.length_append, List.length_singleton]; exact h)
      rw [List.append_assoc] at this
      exact this
theorem make_inv {es : List Re} {m : MS} (h : loopM 0 .zero es = (0, m)) : InvL es m := by
  have := inv_loop es [] .zero m zero_ok inv_zero h
  rwa [List.nil_append] at this
/-! ### gone along -/
def Fg (es : List Re) (x y : Nat) : Prop := ∃ i n e, RuleAt es i n e ∧ Fol e n x y
def Ig (es : List Re) (x : Nat) : Prop := ∃ i n e, RuleAt es i n e ∧ Fst e n x
def Kg (m : MS) (x b : Nat) : Prop := (m.ps.classes.getD x C4.zero).mem b = true
theorem insF_get {m : MS} (h : MOkP m) (now : List Int) (isF : Bool) (b j : Nat) :
    (insF m.ps m.first now isF b).getD j false = true ↔ Kg m j b ∧ ((isF = true ∧ (j : Int) ∈ m.first) ∨ ∃ x ∈ now, (j : Int) ∈ m.ps.follow.getD x.toNat []) := by
  have hf : ∀ x : Int, ∀ y ∈ m.ps.follow.getD x.toNat [], 0 ≤ y ∧ y < m.ps.classes.length := fun x y hy => by
    by_cases c : x.toNat < m.ps.follow.length
    · rw [List.getD_eq_getElem?_getD, List.getElem?_eq_getElem c] at hy
      exact (h.ok.ps.ris _ (List.getElem_mem c)).2 y hy
    · rw [List.getD_eq_getElem?_getD, List.getElem?_eq_none (by omega)] at hy; cases hy
  have h200 := h.few
  have key : ∀ (now : List Int) (ins : List Bool), ins.length = 200 → ((now.foldl (fun ins x => markB m.ps.classes b ins (m.ps.follow.getD x.toNat [])) ins).getD j false = true ↔ ins.getD j false = true ∨ (Kg m j b ∧ ∃ x ∈ now, (j : Int) ∈ m.ps.follow.getD x.toNat [])) := by
    intro now
    induction now with
    | nil => intro ins _; exact ⟨.inl, fun h => h.elim id fun ⟨_, _, h, _⟩ => by cases h⟩
    | cons x r ih =>
      intro ins hl
      rw [List.foldl_cons, ih _ (by rw [markB_len]; exact hl), markB_get _ _ _ _ _ (fun y hy => by have := hf x y hy; omega)]
      constructor
      · rintro ((h1 | ⟨h1, h2⟩) | ⟨h1, z, h2, h3⟩)
        · exact .inl h1
        · exact .inr ⟨h2, x, List.mem_cons_self .., h1⟩
        · exact .inr ⟨h1, z, List.mem_cons_of_mem _ h2, h3⟩
      · rintro (h1 | ⟨h1, z, h2, h3⟩)
        · exact .inl (.inl h1)
        · rcases List.mem_cons.1 h2 with rfl | h2
          · exact .inl (.inr ⟨h3, h1⟩)
          · exact .inr ⟨h1, z, h2, h3⟩
  have hrep : (List.replicate 200 false).getD j false = true ↔ False := by
    rw [rep_getD]; split <;> simp
  unfold insF
  cases isF with
  | false =>
    rw [if_neg (by decide), key now _ List.length_replicate, hrep]
    constructor
    · rintro (h | ⟨h1, h2⟩)
      · exact h.elim
      · exact ⟨h1, .inr h2⟩
    · rintro ⟨h1, ⟨h2, _⟩ | h2⟩
      · cases h2
      · exact .inr ⟨h1, h2⟩
  | true =>
    rw [if_pos rfl, key now _ (by rw [markB_len, List.length_replicate]), markB_get _ _ _ _ _ (fun y hy => by have := h.ok.first.2 y hy; rw [List.length_replicate]; omega), hrep]
    constructor
    · rintro ((h | ⟨h1, h2⟩) | ⟨h1, h2⟩)
      · exact h.elim
      · exact ⟨h2, .inl ⟨rfl, h1⟩⟩
      · exact ⟨h1, .inr h2⟩
    · rintro ⟨h1, ⟨_, h2⟩ | h2⟩
      · exact .inl (.inr ⟨h2, h1⟩)
      · exact .inr ⟨h1, h2⟩
theorem stepP_mem {es : List Re} {m : MS} (h : MOkP m) (hi : InvL es m) (now : List Int) (hnow : ∀ x ∈ now, 0 ≤ x) (isF : Bool) (b : Nat) (x : Int) :
    x ∈ stepP m now isF b ↔ ∃ k : Nat, x = k ∧ Kg m k b ∧ ((isF = true ∧ Ig es k) ∨ ∃ q : Nat, (q : Int) ∈ now ∧ Fg es q k) := by
  unfold stepP
  rw [trues_mem]
  constructor
  · rintro ⟨i, rfl, h1, h2⟩
    obtain ⟨h3, h4⟩ := (insF_get h now isF b i).1 h2
    refine ⟨i, rfl, h3, ?_⟩
    rcases h4 with ⟨h4, h5⟩ | ⟨x, h4, h5⟩
    · obtain ⟨k, e, h6⟩ := (hi.first _).1 h5
      obtain rfl : i = k := by omega
      exact .inl ⟨h4, h6⟩
    · obtain ⟨k, e, h6⟩ := (hi.follow _ _).1 h5
      obtain rfl : i = k := by omega
      have := hnow x h4
      exact .inr ⟨x.toNat, by rw [Int.toNat_of_nonneg this]; exact h4, h6⟩
  · rintro ⟨k, rfl, h1, h2⟩
    have hg : (insF m.ps m.first now isF b).getD k false = true := (insF_get h now isF b k).2 ⟨h1, by
      rcases h2 with ⟨h2, h3⟩ | ⟨q, h2, h3⟩
      · exact .inl ⟨h2, (hi.first _).2 ⟨k, rfl, h3⟩⟩
      · exact .inr ⟨q, h2, by rw [Int.toNat_natCast]; exact (hi.follow _ _).2 ⟨k, rfl, h3⟩⟩⟩
    have := insF_in h now isF b hg
    have := h.few
    exact ⟨k, rfl, by omega, hg⟩
theorem runP_cons (m : MS) (b : UInt8) (s : List UInt8) : runP m (b :: s) = s.foldl (fun now (b : UInt8) => stepP m now false b.toNat) (stepP m [] true b.toNat) := rfl
theorem runS_cons (F K : Nat → Nat → Prop) (I : Nat → Prop) (b : UInt8) (s : List UInt8) : runS F K I (b :: s) = s.foldl (stepS F K) (fun k => I k ∧ K k b.toNat) := rfl
theorem runP_mem {es : List Re} {m : MS} (h : MOkP m) (hi : InvL es m) (s : List UInt8) (x : Int) : x ∈ runP m s ↔ ∃ k : Nat, x = k ∧ runS (Fg es) (Kg m) (Ig es) s k := by
  cases s with
  | nil => exact ⟨fun h => (by cases h), fun ⟨_, _, h⟩ => h.elim⟩
  | cons b s =>
    rw [runP_cons, runS_cons]
    have h0 : ∀ x : Int, x ∈ stepP m [] true b.toNat ↔ ∃ k : Nat, x = k ∧ (Ig es k ∧ Kg m k b.toNat) := fun x => by
      rw [stepP_mem h hi [] (fun x hx => by cases hx)]
      constructor
      · rintro ⟨k, rfl, h1, ⟨_, h2⟩ | ⟨q, h2, _⟩⟩
        · exact ⟨k, rfl, h2, h1⟩
        · cases h2
      · rintro ⟨k, rfl, h2, h1⟩; exact ⟨k, rfl, h1, .inl ⟨rfl, h2⟩⟩
    have hn : ∀ x ∈ stepP m [] true b.toNat, 0 ≤ x := fun x hx => ((step_in h [] true b.toNat).2 x hx).1
    have h1 : ∀ x : Int, x ∈ stepP m [] true b.toNat ↔ ∃ k : Nat, x = k ∧ (fun k => Ig es k ∧ Kg m k b.toNat) k := h0
    clear h0
    generalize stepP m [] true b.toNat = now at *
    generalize (fun k => Ig es k ∧ Kg m k b.toNat) = S at *
    induction s generalizing now S with
    | nil => exact h1 x
    | cons c s ih =>
      rw [List.foldl_cons, List.foldl_cons]
      refine ih _ (fun x hx => ((step_in h now false c.toNat).2 x hx).1) _ fun x => ?_
      rw [stepP_mem h hi now hn]
      constructor
      · rintro ⟨k, rfl, h5, ⟨h2, _⟩ | ⟨q, h2, h3⟩⟩
        · cases h2
        · obtain ⟨k', e, h4⟩ := (h1 _).1 h2
          obtain rfl : q = k' := by omega
          exact ⟨k, rfl, ⟨q, h4, h3⟩, h5⟩
      · rintro ⟨k, rfl, ⟨q, h4, h3⟩, h5⟩
        exact ⟨k, rfl, h5, .inr ⟨q, (h1 _).2 ⟨q, rfl, h4⟩, h3⟩⟩
/-! ### each rule for itself -/
theorem ag_seg {K : Nat → Nat → Prop} : ∀ (e : Re) (n : Nat), (∀ j, j < npl e → ∀ b, K (n + j) b ↔ ((clsP e).getD j C4.zero).mem b = true) → Ag K e n
  | .none, _, _ => trivial
  | .empty, _, _ => trivial
  | .byte c, n, h => fun b => h 0 (by show 0 < 1; omega) b
  | .star a, n, h => ag_seg a n h
  | .cat a b, n, h => by
    have hl := clsP_len a
    refine ⟨ag_seg a n fun j hj q => ?_, ag_seg b (n + npl a) fun j hj q => ?_⟩
    · rw [h j (by simp only [npl]; omega) q]
      show ((clsP a ++ clsP b).getD j C4.zero).mem q = true ↔ _
      rw [app_getD, if_pos (by omega)]
    · rw [Nat.add_assoc, h (npl a + j) (by simp only [npl]; omega) q]
      show ((clsP a ++ clsP b).getD (npl a + j) C4.zero).mem q = true ↔ _
      rw [app_getD, if_neg (by omega), hl, Nat.add_sub_cancel_left]
  | .alt a b, n, h => by
    have hl := clsP_len a
    refine ⟨ag_seg a n fun j hj q => ?_, ag_seg b (n + npl a) fun j hj q => ?_⟩
    · rw [h j (by simp only [npl]; omega) q]
      show ((clsP a ++ clsP b).getD j C4.zero).mem q = true ↔ _
      rw [app_getD, if_pos (by omega)]
    · rw [Nat.add_assoc, h (npl a + j) (by simp only [npl]; omega) q]
      show ((clsP a ++ clsP b).getD (npl a + j) C4.zero).mem q = true ↔ _
      rw [app_getD, if_neg (by omega), hl, Nat.add_sub_cancel_left]
theorem kg_ag {es : List Re} {m : MS} (hi : InvL es m) {i n : Nat} {e : Re} (hr : RuleAt es i n e) : Ag (Kg m) e n := by
  refine ag_seg e n fun j hj b => ?_
  obtain ⟨h1, rfl⟩ := hr
  obtain ⟨hlt, rfl⟩ := List.getElem?_eq_some_iff.1 h1
  have e0 : es = es.take i ++ es[i] :: es.drop (i + 1) := by rw [List.getElem_cons_drop, List.take_append_drop]
  unfold Kg
  rw [hi.cls]
  have : (es.flatMap clsP).getD (plc (es.take i) + j) C4.zero = (clsP es[i]).getD j C4.zero := by
    have e1 : es.flatMap clsP = (es.take i).flatMap clsP ++ (clsP es[i] ++ (es.drop (i + 1)).flatMap clsP) := by
      conv => lhs; rw [e0]
      rw [List.flatMap_append, List.flatMap_cons]
    rw [e1, app_getD, if_neg (by rw [cls_plc]; omega), cls_plc, Nat.add_sub_cancel_left, app_getD, if_pos (by rw [clsP_len]; exact hj)]
  rw [this]
theorem rule_one {es : List Re} {m : MS} (hi : InvL es m) {i n i' n' : Nat} {e e' : Re} (hr : RuleAt es i n e) (hr' : RuleAt es i' n' e') {x : Nat} (h : n ≤ x ∧ x < n + npl e) (h' : n' ≤ x ∧ x < n' + npl e') : i = i' ∧ n = n' ∧ e = e' := by
  have h1 := hi.rules _ _ _ hr x h.1 h.2
  have h2 := hi.rules _ _ _ hr' x h'.1 h'.2
  obtain rfl : i = i' := by omega
  obtain ⟨a1, rfl⟩ := hr
  obtain ⟨b1, rfl⟩ := hr'
  rw [a1] at b1
  exact ⟨rfl, rfl, Option.some.inj b1⟩
theorem chn_one {es : List Re} {m : MS} (hi : InvL es m) {i n : Nat} {e : Re} (hr : RuleAt es i n e) : ∀ (l : List Nat) (x : Nat), Chn (Fg es) (fun k => m.ps.rules.getD k 0 = (i : Int) ∧ m.ps.last.getD k false = true) x l → (n ≤ x ∧ x < n + npl e) ∧ Chn (Fol e n) (Lst e n) x l
  | [], x, ⟨h1, h2⟩ => by
    obtain ⟨i', n', e', hr', h3⟩ := (hi.last x).1 h2
    have hin := lst_in e' h3
    have := hi.rules _ _ _ hr' x hin.1 hin.2
    obtain rfl : i = i' := by omega
    obtain ⟨a1, rfl⟩ := hr
    obtain ⟨b1, rfl⟩ := hr'
    rw [a1] at b1
    cases b1
    exact ⟨hin, h3⟩
  | y :: r, x, ⟨⟨i', n', e', hr', h1⟩, h2⟩ => by
    obtain ⟨q1, q2⟩ := chn_one hi hr r y h2
    have hin := fol_in e' h1
    obtain ⟨rfl, rfl, rfl⟩ := rule_one hi hr hr' q1 hin.2
    exact ⟨hin.1, h1, q2⟩
theorem one_chn {es : List Re} {m : MS} (hi : InvL es m) {i n : Nat} {e : Re} (hr : RuleAt es i n e) : ∀ (l : List Nat) (x : Nat), Chn (Fol e n) (Lst e n) x l → Chn (Fg es) (fun k => m.ps.rules.getD k 0 = (i : Int) ∧ m.ps.last.getD k false = true) x l
  | [], x, h => ⟨hi.rules _ _ _ hr x (lst_in e h).1 (lst_in e h).2, (hi.last x).2 ⟨i, n, e, hr, h⟩⟩
  | y :: r, x, ⟨h1, h2⟩ => ⟨⟨i, n, e, hr, h1⟩, one_chn hi hr r y h2⟩
/-- a set of places tells rule i just if its expression means the text -/
theorem tells_lang {es : List Re} {m : MS} (h : MOkP m) (hi : InvL es m) {s : List UInt8} (hs : s ≠ []) {i : Nat} {e : Re} (he : es[i]? = some e) : (∃ x ∈ runP m s, m.ps.rules.getD x.toNat 0 = (i : Int) ∧ m.ps.last.getD x.toNat false = true) ↔ Lang e s := by
  have hr : RuleAt es i (plc (es.take i)) e := ⟨he, rfl⟩
  rw [← runS_lang (kg_ag hi hr) hs, runS_iff hs]
  have h1 : (∃ x ∈ runP m s, m.ps.rules.getD x.toNat 0 = (i : Int) ∧ m.ps.last.getD x.toNat false = true) ↔ ∃ k, runS (Fg es) (Kg m) (Ig es) s k ∧ (fun k => m.ps.rules.getD k 0 = (i : Int) ∧ m.ps.last.getD k false = true) k := by
    constructor
    · rintro ⟨x, h2, h3⟩
      obtain ⟨k, rfl, h4⟩ := (runP_mem h hi s x).1 h2
      exact ⟨k, h4, by rw [Int.toNat_natCast] at h3; exact h3⟩
    · rintro ⟨k, h2, h3⟩
      exact ⟨(k : Int), (runP_mem h hi s _).2 ⟨k, rfl, h2⟩, by rw [Int.toNat_natCast]; exact h3⟩
  rw [h1, runS_iff hs]
  constructor
  · rintro ⟨x, l, q1, ⟨i', n', e', hr', q2⟩, q3⟩
    obtain ⟨q4, q5⟩ := chn_one hi hr l x q3
    obtain ⟨rfl, rfl, rfl⟩ := rule_one hi hr hr' q4 (fst_in e' q2)
    exact ⟨x, l, q1, q2, q5⟩
  · rintro ⟨x, l, q1, q2, q3⟩
    exact ⟨x, l, q1, ⟨i, _, e, hr, q2⟩, one_chn hi hr l x q3⟩
end Go.Proofs.Ytknojgjdaafboaa.placesL

/- ClassP -/
namespace Go.Proofs.Ytknojgjdaafboaa.classL
def one (x : C4) : List C4 := if x = C4.zero then [] else [x]
/-- what holds of parts -/
structure Parts (S : List C4) (all : List C4) : Prop where
  some : ∀ x ∈ all, x ≠ C4.zero
  apart : all.Pairwise fun x y => x.meet y = C4.zero
  sum : (all.map cnt).sum = 256
  whole : ∀ n, n < 256 → ∃ x ∈ all, x.mem n = true
  each : ∀ c ∈ S, ∀ x ∈ all, x.meet c = x ∨ x.meet c = C4.zero
  told : all.Pairwise fun x y => ∃ c ∈ S, decide (x.meet c = x) ≠ decide (y.meet c = y)
theorem zero_iff {x : C4} : x = C4.zero ↔ ∀ n, n < 256 → x.mem n = false :=
  ⟨fun h n _ => by rw [h, zero_mem], fun h => ext_mem fun n hn => by rw [h n hn, zero_mem]⟩
theorem cnt_zero {x : C4} (h : cnt x = 0) : x = C4.zero := by
  have : bytesL x = [] := List.eq_nil_of_length_eq_zero h
  refine zero_iff.2 fun n hn => ?_
  cases e : x.mem n with
  | false => rfl
  | true => exact absurd (mem_bytes.2 ⟨hn, e⟩) (by rw [this]; simp)
theorem sum_len : ∀ all : List C4, (∀ x ∈ all, x ≠ C4.zero) → all.length ≤ (all.map cnt).sum
  | [], _ => Nat.le_refl _
  | x :: all, h => by
    have ih := sum_len all fun y hy => h y (by simp [hy])
    have : cnt x ≠ 0 := fun e => h x (by simp) (cnt_zero e)
    simp only [List.length_cons, List.map_cons, List.sum_cons]
    omega
theorem Parts.len {S all : List C4} (h : Parts S all) : all.length ≤ 256 := by
  have := sum_len all h.some
  rw [h.sum] at this
  exact this
theorem Parts.more {S S' all : List C4} (h : Parts S all) (h1 : ∀ c, c ∈ S' → c ∈ S) (h2 : ∀ c, c ∈ S → c ∈ S') : Parts S' all :=
  ⟨h.some, h.apart, h.sum, h.whole, fun c hc => h.each c (h1 c hc), h.told.imp fun ⟨c, hc, h⟩ => ⟨c, h2 c hc, h⟩⟩
end Go.Proofs.Ytknojgjdaafboaa.classL

/- DfQ -/
namespace Go.Proofs.Ytknojgjdaafboaa.dfaP
open classL rexL placesL smallL
open eng (chk aut row0 ok_chk)
/-! ### sets -/
theorem next_mem {p : PS} (hp : PSOk p) (h2 : p.classes.length ≤ 200) (s : C4) (j : Nat) (hj : j < 256) : ∀ k, (nextTo p s k).mem j = true ↔ ∃ i, i < k ∧ s.mem i = true ∧ (j : Int) ∈ p.follow.getD i []
  | 0 => by
    show C4.zero.mem j = true ↔ _
    rw [zero_mem]
    exact ⟨fun h => (by cases h), fun ⟨i, hi, _⟩ => absurd hi (Nat.not_lt_zero i)⟩
  | k + 1 => by
    have ih := next_mem hp h2 s j hj k
    have hr : ∀ x ∈ p.follow.getD k [], 0 ≤ x ∧ x < 256 := fun x hx => by
      rw [List.getD_eq_getElem?_getD] at hx
      cases e : p.follow[k]? with
      | none => rw [e] at hx; cases hx
      | some l =>
        rw [e] at hx
        have := (hp.ris l (List.mem_of_getElem? e)).2 x hx
        omega
    have e : nextTo p s (k + 1) = if s.mem k = true then putAll (nextTo p s k) (p.follow.getD k []) else nextTo p s k := rfl
    rw [e]
    by_cases c : s.mem k = true
    · rw [if_pos c, putAll_mem _ _ _ hj hr, ih]
      constructor
      · rintro (⟨i, h1, h3⟩ | h)
        · exact ⟨i, Nat.lt_succ_of_lt h1, h3⟩
        · exact ⟨k, Nat.lt_succ_self k, c, h⟩
      · rintro ⟨i, h1, h3, h4⟩
        by_cases ei : i = k
        · subst ei; exact .inr h4
        · exact .inl ⟨i, by omega, h3, h4⟩
    · rw [if_neg c, ih]
      constructor
      · rintro ⟨i, h1, h3⟩; exact ⟨i, Nat.lt_succ_of_lt h1, h3⟩
      · rintro ⟨i, h1, h3, h4⟩
        by_cases ei : i = k
        · subst ei; exact absurd h3 c
        · exact ⟨i, by omega, h3, h4⟩
theorem to_mem {p : PS} (all : C4) (b j : Nat) (hj : j < 256) : ∀ k, k ≤ 256 → ((toTo p all b k).mem j = true ↔ j < k ∧ all.mem j = true ∧ (p.classes.getD j C4.zero).mem b = true)
  | 0, _ => by
    show C4.zero.mem j = true ↔ _
    rw [zero_mem]
    exact ⟨fun h => (by cases h), fun ⟨hi, _⟩ => absurd hi (Nat.not_lt_zero j)⟩
  | k + 1, hk => by
    have ih := to_mem (p := p) all b j hj k (by omega)
    have e : toTo p all b (k + 1) = if all.mem k = true ∧ (p.classes.getD k C4.zero).mem b = true then (toTo p all b k).bit k else toTo p all b k := rfl
    rw [e]
    by_cases c : all.mem k = true ∧ (p.classes.getD k C4.zero).mem b = true
    · rw [if_pos c, bit_mem _ _ _ (by omega) hj, Bool.or_eq_true, decide_eq_true_eq, ih]
      constructor
      · rintro (⟨h1, h2⟩ | rfl)
        · exact ⟨by omega, h2⟩
        · exact ⟨Nat.lt_succ_self _, c⟩
      · rintro ⟨h1, h2⟩
        by_cases ej : j = k
        · exact .inr ej
        · exact .inl ⟨by omega, h2⟩
    · rw [if_neg c, ih]
      constructor
      · rintro ⟨h1, h2⟩; exact ⟨by omega, h2⟩
      · rintro ⟨h1, h2⟩
        by_cases ej : j = k
        · subst ej; exact absurd h2 c
        · exact ⟨by omega, h2⟩
/-! ### what Make has made -/
def cellT (p : PS) (S : List C4) (all : C4) (b : Nat) : Int := if toF p all b = C4.zero then -1 else ((idx S (toF p all b) + 1 : Nat) : Int)
def CellOk (p : PS) (S : List C4) (all : C4) (b : Nat) (x : Int) : Prop := x = cellT p S all b ∧ (toF p all b = C4.zero ∨ toF p all b ∈ S)
theorem CellOk.app {p : PS} {S : List C4} {all : C4} {b : Nat} {x : Int} (h : CellOk p S all b x) (E : List C4) : CellOk p (S ++ E) all b x := by
  obtain ⟨h1, h2⟩ := h
  refine ⟨?_, h2.imp id fun h => List.mem_append_left _ h⟩
  rw [h1]
  unfold cellT
  by_cases c : toF p all b = C4.zero
  · rw [if_pos c, if_pos c]
  · rw [if_neg c, if_neg c, idx_pre (h2.resolve_left c)]
/-- tags -/
def TagsOk (p : PS) (t0 : Int) (d : DM) : Prop := d.tags = t0 :: d.S.map (dfaP.tagF p)
theorem state_law (p : PS) (t0 : Int) (d : DM) (s : C4) : (∃ E, (stateF p d s).2.S = d.S ++ E) ∧ s ∈ (stateF p d s).2.S ∧ (stateF p d s).1 = idx (stateF p d s).2.S s + 1 ∧ (TagsOk p t0 d → TagsOk p t0 (stateF p d s).2) := by
  unfold stateF
  by_cases c : s ∈ d.S
  · rw [if_pos c]
    exact ⟨⟨[], (List.append_nil _).symm⟩, c, rfl, id⟩
  · rw [if_neg c]
    refine ⟨⟨[s], rfl⟩, List.mem_append_right _ (List.mem_singleton.2 rfl), ?_, fun h => ?_⟩
    · show d.S.length + 1 = idx (d.S ++ [s]) s + 1
      unfold idx
      rw [List.idxOf_append, if_neg c]
      simp
    · show d.tags ++ [dfaP.tagF p s] = t0 :: (d.S ++ [s]).map (dfaP.tagF p)
      rw [h, List.map_append]; rfl
theorem cell_law (p : PS) (t0 : Int) (all : C4) (b : Nat) (hb : b < 256) (r : Row) (d : DM) : (∃ E, (cellF p all b r d).2.S = d.S ++ E) ∧ (∀ c (h : c < 256), c ≠ b → (cellF p all b r d).1[c] = r[c]) ∧ CellOk p (cellF p all b r d).2.S all b ((cellF p all b r d).1[b]) ∧ (TagsOk p t0 d → TagsOk p t0 (cellF p all b r d).2) := by
  unfold cellF
  by_cases c : toF p all b = C4.zero
  · rw [if_pos c, dif_pos hb]
    refine ⟨⟨[], (List.append_nil _).symm⟩, fun c' h hc => ?_, ⟨?_, .inl c⟩, id⟩
    · exact Vector.getElem_set_ne hb h (Ne.symm hc)
    · rw [Vector.getElem_set_self hb]; unfold cellT; rw [if_pos c]
  · rw [if_neg c, dif_pos hb]
    obtain ⟨h1, h2, h3, h4⟩ := state_law p t0 d (toF p all b)
    refine ⟨h1, fun c' h hc => ?_, ⟨?_, .inr h2⟩, h4⟩
    · dsimp only
      rw [Vector.getElem_set_ne hb h (Ne.symm hc), Vector.getElem_set_ne hb h (Ne.symm hc)]
    · dsimp only
      rw [Vector.getElem_set_self hb, h3]; unfold cellT; rw [if_neg c]
theorem row_law (p : PS) (t0 : Int) (all : C4) : ∀ (f b : Nat) (r : Row) (d : DM), b + f = 256 → (rowTo p all f b r d).2.S.length + 1 ≤ 200 →
    (∃ E, (rowTo p all f b r d).2.S = d.S ++ E) ∧ (∀ c (h : c < 256), c < b → (rowTo p all f b r d).1[c] = r[c]) ∧ (∀ c (h : c < 256), b ≤ c → CellOk p (rowTo p all f b r d).2.S all c ((rowTo p all f b r d).1[c])) ∧ (TagsOk p t0 d → TagsOk p t0 (rowTo p all f b r d).2)
  | 0, b, r, d, hbf, _ => ⟨⟨[], (List.append_nil _).symm⟩, fun _ _ _ => rfl, fun c h hc => by omega, id⟩
  | f + 1, b, r, d, hbf, hl => by
    obtain ⟨⟨E1, h1⟩, h2, h3, h4⟩ := cell_law p t0 all b (by omega) r d
    have e : rowTo p all (f + 1) b r d = if 200 < (cellF p all b r d).2.S.length + 1 then cellF p all b r d else rowTo p all f (b + 1) (cellF p all b r d).1 (cellF p all b r d).2 := rfl
    rw [e] at hl ⊢
    by_cases c : 200 < (cellF p all b r d).2.S.length + 1
    · rw [if_pos c] at hl; omega
    · rw [if_neg c] at hl ⊢
      obtain ⟨⟨E2, q1⟩, q2, q3, q4⟩ := row_law p t0 all f (b + 1) _ _ (by omega) hl
      refine ⟨⟨E1 ++ E2, by rw [q1, h1, List.append_assoc]⟩, fun c' h hc => ?_, fun c' h hc => ?_, fun h => q4 (h4 h)⟩
      · rw [q2 c' h (by omega), h2 c' h (by omega)]
      · by_cases ec : c' = b
        · subst ec
          rw [q2 c' h (by omega), q1]
          exact h3.app E2
        · exact q3 c' h (by omega)
theorem nextF_app (m : MS) (S E : List C4) {n : Nat} (h : n ≤ S.length) : nextF m (S ++ E) n = nextF m S n := by
  cases n with
  | zero => rfl
  | succ n =>
    show nextTo m.ps ((S ++ E).getD n C4.zero) _ = nextTo m.ps (S.getD n C4.zero) _
    rw [getD_left (by omega)]
structure MkI (m : MS) (t0 : Int) (n : Nat) (R : List Row) (d : DM) : Prop where
  len : R.length = n
  le : n ≤ d.S.length + 1
  few : d.S.length + 1 ≤ 200
  cell : ∀ q, q < n → ∀ c (h : c < 256), CellOk m.ps d.S (nextF m d.S q) c ((R.getD q row0)[c])
  tags : TagsOk m.ps t0 d
theorem make_law (m : MS) (t0 : Int) : ∀ (f n : Nat) (R : List Row) (d : DM) (R' : List Row) (d' : DM), makeTo m f n R d = some (R', d') → MkI m t0 n R d → MkI m t0 (d'.S.length + 1) R' d'
  | 0, _, _, _, _, _, h, _ => by cases h
  | f + 1, n, R, d, R', d', h, hi => by
    have e : makeTo m (f + 1) n R d = if n < d.S.length + 1 then (if 200 < (rowP m n d).2.S.length + 1 then none else makeTo m f (n + 1) (R ++ [(rowP m n d).1]) (rowP m n d).2) else some (R, d) := rfl
    rw [e] at h
    by_cases c1 : n < d.S.length + 1
    · rw [if_pos c1] at h
      by_cases c2 : 200 < (rowP m n d).2.S.length + 1
      · rw [if_pos c2] at h; cases h
      · rw [if_neg c2] at h
        refine make_law m t0 f (n + 1) _ _ R' d' h ?_
        obtain ⟨⟨E, q1⟩, _, q3, q4⟩ := row_law m.ps t0 (nextF m d.S n) 256 0 (Vector.replicate 256 0) d rfl (by show (rowP m n d).2.S.length + 1 ≤ 200; omega)
        have q1 : (rowP m n d).2.S = d.S ++ E := q1
        have q3 : ∀ c (h : c < 256), 0 ≤ c → CellOk m.ps (rowP m n d).2.S (nextF m d.S n) c ((rowP m n d).1[c]) := q3
        have hlen := congrArg List.length q1
        rw [List.length_append] at hlen
        refine ⟨by rw [List.length_append, hi.len]; rfl, by omega, by omega, fun q hq c hc => ?_, q4 hi.tags⟩
        by_cases eq : q = n
        · subst eq
          rw [getD_right (by rw [hi.len]; exact Nat.le_refl _), hi.len, Nat.sub_self]
          show CellOk m.ps (rowP m q d).2.S (nextF m (rowP m q d).2.S q) c ((rowP m q d).1[c])
          rw [q1, nextF_app m d.S E (by omega), ← q1]
          exact q3 c hc (Nat.zero_le _)
        · rw [getD_left (by rw [hi.len]; omega), q1, nextF_app m d.S E (by omega)]
          exact (hi.cell q (by omega) c hc).app E
    · rw [if_neg c1] at h
      simp only [Option.some.injEq, Prod.mk.injEq] at h
      obtain ⟨rfl, rfl⟩ := h
      have : n = d.S.length + 1 := by have := hi.le; omega
      rw [← this]; exact hi
theorem makeD_law {m : MS} {R : List Row} {d : DM} (h : makeD m = some (R, d)) : MkI m (firstT m.empty 0) (d.S.length + 1) R d :=
  make_law m (firstT m.empty 0) 201 0 [] ⟨[], [firstT m.empty 0]⟩ R d h ⟨rfl, Nat.zero_le _, by show 0 + 1 ≤ 200; decide, fun q hq => absurd hq (Nat.not_lt_zero q), rfl⟩
/-! ### going along -/
/-- a state and the places that it stands for -/
def RelQ (S : List C4) (q : Int) (now : List Int) : Prop := (q = -1 ∧ now = []) ∨ ∃ n, ∃ h : n < S.length, q = ((n + 1 : Nat) : Int) ∧ (∀ i : Nat, i < 256 → (S[n].mem i = true ↔ (i : Int) ∈ now)) ∧ ∀ x ∈ now, 0 ≤ x ∧ x < 200
theorem row_getD (R : List Row) (q c : Nat) (h : c < 256) : ((R.getD q row0).toList.getD c 0) = (R.getD q row0)[c] := by
  rw [List.getD_eq_getElem?_getD, List.getElem?_eq_getElem (by simpa using h), Option.getD_some, Vector.getElem_toList]
theorem step_rel {m : MS} {R : List Row} {d : DM} (hm : MOkP m) (hi : MkI m (firstT m.empty 0) (d.S.length + 1) R d) (tags : List Int) (n : Nat) (hn : n ≤ d.S.length) (now : List Int) (isF : Bool) (b : UInt8)
    (hs : (n = 0 ∧ isF = true ∧ now = []) ∨ (isF = false ∧ RelQ d.S (n : Int) now ∧ n ≠ 0)) : RelQ d.S (dt (aut R tags) (n : Int) b.toNat) (stepP m now isF b.toNat) := by
  have hb : b.toNat < 256 := b.toNat_lt
  have hcell := hi.cell n (by omega) b.toNat hb
  have hps := hm.ok.ps
  have hmem : ∀ j : Nat, j < 256 → ((toF m.ps (nextF m d.S n) b.toNat).mem j = true ↔ (j : Int) ∈ stepP m now isF b.toNat) := fun j hj => by
    unfold toF
    rw [to_mem _ _ _ hj _ (by have := hm.few; omega)]
    unfold stepP
    rw [trues_mem]
    have hins := insF_get hm now isF b.toNat j
    have hnx : (nextF m d.S n).mem j = true ↔ (isF = true ∧ (j : Int) ∈ m.first) ∨ ∃ x ∈ now, (j : Int) ∈ m.ps.follow.getD x.toNat [] := by
      rcases hs with ⟨rfl, rfl, rfl⟩ | ⟨rfl, hR, h0⟩
      · show (putAll C4.zero m.first).mem j = true ↔ _
        rw [putAll_mem _ _ _ hj (fun x hx => by have := hm.ok.first.2 x hx; have := hm.few; omega), zero_mem]
        constructor
        · rintro (h | h)
          · cases h
          · exact .inl ⟨rfl, h⟩
        · rintro (h | ⟨x, hx, _⟩)
          · exact .inr h.2
          · cases hx
      · obtain ⟨k, rfl⟩ : ∃ k, n = k + 1 := ⟨n - 1, by omega⟩
        rcases hR with ⟨h, _⟩ | ⟨k', hk', e, h1, h2⟩
        · omega
        · obtain rfl : k' = k := by omega
          show (nextTo m.ps (d.S.getD k' C4.zero) m.ps.follow.length).mem j = true ↔ _
          rw [next_mem hps hm.few _ _ hj, List.getD_eq_getElem?_getD, List.getElem?_eq_getElem hk', Option.getD_some]
          constructor
          · rintro ⟨i, h3, h4, h5⟩
            refine .inr ⟨(i : Int), (h1 i (by have := hps.follow; have := hm.few; omega)).1 h4, ?_⟩
            rw [Int.toNat_natCast]; exact h5
          · rintro (h | ⟨x, hx, h3⟩)
            · cases h.1
            · have hx2 := h2 x hx
              obtain ⟨i, rfl⟩ := Int.eq_ofNat_of_zero_le hx2.1
              rw [Int.toNat_natCast] at h3
              refine ⟨i, ?_, (h1 i (by omega)).2 hx, h3⟩
              rcases Nat.lt_or_ge i m.ps.follow.length with h | h
              · exact h
              · rw [List.getD_eq_getElem?_getD, List.getElem?_eq_none h] at h3; cases h3
    have hin : (insF m.ps m.first now isF b.toNat).getD j false = true → j < m.ps.classes.length := fun h => insF_in hm now isF b.toNat h
    constructor
    · rintro ⟨h1, h2, h3⟩
      refine ⟨j, rfl, by have := hm.few; omega, hins.2 ⟨h3, hnx.1 h2⟩⟩
    · rintro ⟨i, e, h1, h2⟩
      obtain rfl : i = j := by omega
      have := hins.1 h2
      exact ⟨hin h2, hnx.2 this.2, this.1⟩
  have hrange : ∀ x ∈ stepP m now isF b.toNat, 0 ≤ x ∧ x < 200 := fun x hx => by
    obtain ⟨i, rfl, hi, _⟩ := trues_mem.1 hx
    omega
  have hdt : dt (aut R tags) (n : Int) b.toNat = (R.getD n row0)[b.toNat] := by
    unfold dt
    rw [if_neg (by omega), Int.toNat_natCast]
    exact row_getD R n b.toNat hb
  rw [hdt, hcell.1]
  unfold cellT
  by_cases c : toF m.ps (nextF m d.S n) b.toNat = C4.zero
  · rw [if_pos c]
    refine .inl ⟨rfl, ?_⟩
    rw [c] at hmem
    cases e : stepP m now isF b.toNat with
    | nil => rfl
    | cons x l =>
      have hx := hrange x (by rw [e]; exact List.mem_cons_self ..)
      obtain ⟨i, rfl⟩ := Int.eq_ofNat_of_zero_le hx.1
      have := (hmem i (by omega)).2 (by rw [e]; exact List.mem_cons_self ..)
      rw [zero_mem] at this; cases this
  · rw [if_neg c]
    have hin := hcell.2.resolve_left c
    have hlt := idx_lt hin
    refine .inr ⟨_, hlt, rfl, fun i h => ?_, hrange⟩
    rw [idx_get hlt]
    exact hmem i h
theorem step_nil {m : MS} (hm : MOkP m) (b : Nat) : stepP m [] false b = [] := by
  cases e : stepP m [] false b with
  | nil => rfl
  | cons x l =>
    have hx : x ∈ stepP m [] false b := by rw [e]; exact List.mem_cons_self ..
    obtain ⟨i, rfl, _, h⟩ := trues_mem.1 hx
    rcases ((insF_get hm [] false b i).1 h).2 with h | ⟨x, hx, _⟩
    · cases h.1
    · cases hx
theorem go_rel {m : MS} {R : List Row} {d : DM} (hm : MOkP m) (hi : MkI m (firstT m.empty 0) (d.S.length + 1) R d) (tags : List Int) : ∀ (s : List UInt8) (q : Int) (now : List Int), RelQ d.S q now → RelQ d.S (go (aut R tags) q s) (s.foldl (fun now (b : UInt8) => stepP m now false b.toNat) now)
  | [], _, _, h => h
  | b :: s, q, now, h => by
    show RelQ d.S (go (aut R tags) (dt (aut R tags) q b.toNat) s) (s.foldl _ (stepP m now false b.toNat))
    refine go_rel hm hi tags s _ _ ?_
    rcases h with ⟨rfl, rfl⟩ | h
    · rw [step_nil hm]; exact .inl ⟨rfl, rfl⟩
    · obtain ⟨n, hn, rfl, h1⟩ := h
      exact step_rel hm hi tags (n + 1) hn now false b (.inr ⟨rfl, .inr ⟨n, hn, rfl, h1⟩, Nat.succ_ne_zero n⟩)
/-- where a text comes to -/
theorem goes_rel {m : MS} {R : List Row} {d : DM} (hm : MOkP m) (hi : MkI m (firstT m.empty 0) (d.S.length + 1) R d) (tags : List Int) (s : List UInt8) (hs : s ≠ []) : RelQ d.S (go (aut R tags) 0 s) (runP m s) := by
  cases s with
  | nil => exact absurd rfl hs
  | cons b s =>
    rw [runP_cons]
    exact go_rel hm hi tags s _ _ (step_rel hm hi tags 0 (Nat.zero_le _) [] true b (.inl ⟨rfl, rfl, rfl⟩))
/-! ### tags -/
theorem tag_law {p : PS} {n : Nat} (hr : ∀ r ∈ p.rules, 0 ≤ r ∧ r < n) (hl : p.rules.length = p.classes.length) (s : C4) : ∀ k, k ≤ p.classes.length → (tagTo p s k = -1 ∧ ∀ i, i < k → s.mem i = true → p.last.getD i false = true → False) ∨ (∃ i, i < k ∧ s.mem i = true ∧ p.last.getD i false = true ∧ tagTo p s k = p.rules.getD i 0 ∧ 0 ≤ tagTo p s k ∧ tagTo p s k < n ∧ ∀ i, i < k → s.mem i = true → p.last.getD i false = true → tagTo p s k ≤ p.rules.getD i 0)
  | 0, _ => .inl ⟨rfl, fun i hi => absurd hi (Nat.not_lt_zero i)⟩
  | k + 1, hk => by
    have hrk : 0 ≤ p.rules.getD k 0 ∧ p.rules.getD k 0 < n := by
      rw [List.getD_eq_getElem?_getD, List.getElem?_eq_getElem (by omega), Option.getD_some]
      exact hr _ (List.getElem_mem _)
    have e : tagTo p s (k + 1) = if s.mem k = true ∧ p.last.getD k false = true ∧ (tagTo p s k < 0 ∨ p.rules.getD k 0 < tagTo p s k) then p.rules.getD k 0 else tagTo p s k := rfl
    rw [e]
    have ih := tag_law hr hl s k (by omega)
    by_cases c : s.mem k = true ∧ p.last.getD k false = true ∧ (tagTo p s k < 0 ∨ p.rules.getD k 0 < tagTo p s k)
    · rw [if_pos c]
      refine .inr ⟨k, Nat.lt_succ_self k, c.1, c.2.1, rfl, hrk.1, hrk.2, fun i hi h1 h2 => ?_⟩
      by_cases ei : i = k
      · subst ei; exact Int.le_refl _
      · rcases ih with ⟨_, h⟩ | ⟨_, _, _, _, _, h0, _, h⟩
        · exact (h i (by omega) h1 h2).elim
        · have h7 := h i (by omega) h1 h2
          have h8 := c.2.2
          omega
    · rw [if_neg c]
      rcases ih with ⟨h0, h⟩ | ⟨i, hi, h1, h2, h3, h4, h5, h6⟩
      · refine .inl ⟨h0, fun i hi h1 h2 => ?_⟩
        by_cases ei : i = k
        · subst ei; exact c ⟨h1, h2, .inl (by rw [h0]; decide)⟩
        · exact h i (by omega) h1 h2
      · refine .inr ⟨i, by omega, h1, h2, h3, h4, h5, fun j hj g1 g2 => ?_⟩
        by_cases ej : j = k
        · subst ej
          have h9 : ¬ (tagTo p s j < 0 ∨ p.rules.getD j 0 < tagTo p s j) := fun h => c ⟨g1, g2, h⟩
          omega
        · exact h6 j (by omega) g1 g2
/-! ### the least rule -/
theorem firstT_law : ∀ (l : List Bool) (k : Nat), (firstT l k = -1 ∧ ∀ i, i < l.length → l.getD i false = false) ∨ (∃ i, i < l.length ∧ firstT l k = ((k + i : Nat) : Int) ∧ l.getD i false = true ∧ ∀ j, j < i → l.getD j false = false)
  | [], _ => .inl ⟨rfl, fun _ _ => rfl⟩
  | true :: l, k => .inr ⟨0, Nat.zero_lt_succ _, rfl, rfl, fun j hj => absurd hj (Nat.not_lt_zero j)⟩
  | false :: l, k => by
    have e : firstT (false :: l) (k : Int) = firstT l ((k + 1 : Nat) : Int) := rfl
    rw [e]
    rcases firstT_law l (k + 1) with ⟨h1, h2⟩ | ⟨i, h1, h2, h3, h4⟩
    · refine .inl ⟨h1, fun i hi => ?_⟩
      cases i with
      | zero => rfl
      | succ i => exact h2 i (by simpa using hi)
    · refine .inr ⟨i + 1, by simpa using h1, by rw [h2]; congr 1; omega, h3, fun j hj => ?_⟩
      cases j with
      | zero => rfl
      | succ j => exact h4 j (by omega)
theorem firstT_no {l : List Bool} (h : ∀ i, i < l.length → l.getD i false = false) : firstT l 0 = -1 := by
  rcases firstT_law l 0 with ⟨h1, _⟩ | ⟨i, h1, _, h3, _⟩
  · exact h1
  · rw [h i h1] at h3; cases h3
theorem firstT_eq {l : List Bool} {i : Nat} (hi : i < l.length) (h : l.getD i false = true) (hj : ∀ j, j < i → l.getD j false = false) : firstT l 0 = (i : Int) := by
  rcases firstT_law l 0 with ⟨_, h2⟩ | ⟨k, h1, h2, h3, h4⟩
  · rw [h2 i hi] at h; cases h
  · have h2 : firstT l 0 = ((0 + k : Nat) : Int) := h2
    have : k = i := by
      rcases Nat.lt_trichotomy k i with c | c | c
      · rw [hj k c] at h3; cases h3
      · exact c
      · rw [h4 i c] at h; cases h
    rw [h2]; omega
open Classical in
/-- the least rule whose expression means the text; -1: none does -/
noncomputable def leastL (es : List Re) (s : List UInt8) : Int := firstT (es.map fun e => decide (Lang e s)) 0
open Classical in
theorem lb_get (es : List Re) (s : List UInt8) {k : Nat} (hk : k < es.length) : (es.map fun e => decide (Lang e s)).getD k false = decide (Lang es[k] s) := by
  rw [List.getD_eq_getElem?_getD, List.getElem?_map, List.getElem?_eq_getElem hk]; rfl
open Classical in
theorem least_no {es : List Re} {s : List UInt8} (h : ∀ i (h : i < es.length), ¬ Lang es[i] s) : leastL es s = -1 := by
  unfold leastL
  refine firstT_no fun i hi => ?_
  rw [List.length_map] at hi
  rw [lb_get es s hi]; exact decide_eq_false (h i hi)
open Classical in
theorem least_eq {es : List Re} {s : List UInt8} {i : Nat} (hi : i < es.length) (h : Lang es[i] s) (hj : ∀ j (h : j < i), ¬ Lang (es[j]'(by omega)) s) : leastL es s = (i : Int) := by
  unfold leastL
  refine firstT_eq (by rw [List.length_map]; exact hi) (by rw [lb_get es s hi]; exact decide_eq_true h) fun j hji => ?_
  rw [lb_get es s (by omega)]; exact decide_eq_false (hj j hji)
open Classical in
theorem least_law (es : List Re) (s : List UInt8) : (leastL es s = -1 ∧ ∀ i (h : i < es.length), ¬ Lang es[i] s) ∨ ∃ i, ∃ h : i < es.length, leastL es s = (i : Int) ∧ Lang es[i] s ∧ ∀ j (h : j < i), ¬ Lang (es[j]'(by omega)) s := by
  unfold leastL
  rcases firstT_law (es.map fun e => decide (Lang e s)) 0 with ⟨h1, h2⟩ | ⟨i, h1, h2, h3, h4⟩
  · refine .inl ⟨h1, fun i hi => ?_⟩
    have := h2 i (by rw [List.length_map]; exact hi)
    rw [lb_get es s hi] at this
    exact of_decide_eq_false this
  · rw [List.length_map] at h1
    rw [lb_get es s h1] at h3
    refine .inr ⟨i, h1, by rw [Nat.zero_add] at h2; exact h2, of_decide_eq_true h3, fun j hj => ?_⟩
    have := h4 j hj
    rw [lb_get es s (by omega)] at this
    exact of_decide_eq_false this
theorem firstT_lt {l : List Bool} : -1 ≤ firstT l 0 ∧ firstT l 0 < (l.length : Int) := by
  rcases firstT_law l 0 with ⟨h1, _⟩ | ⟨i, h1, h2, _⟩
  · have h1 : firstT l 0 = -1 := h1
    rw [h1]; omega
  · have h2 : firstT l 0 = ((0 + i : Nat) : Int) := h2
    rw [h2]; omega
section
variable {es : List Re} {m : MS} {R : List Row} {d : DM}
theorem mk_tags (hm : MOkP m) (hi : MkI m (firstT m.empty 0) (d.S.length + 1) R d) {k : Nat} (hk : k < d.S.length + 1) : d.tags.getD k 0 = (if h : k = 0 then firstT m.empty 0 else dfaP.tagF m.ps (d.S[k - 1]'(by omega))) ∧ -1 ≤ d.tags.getD k 0 ∧ d.tags.getD k 0 < 20 := by
  have h := hi.tags
  unfold TagsOk at h
  rw [h]
  have h20 := hm.most
  cases k with
  | zero =>
    have := firstT_lt (l := m.empty)
    refine ⟨rfl, this.1, ?_⟩
    have e : (firstT m.empty 0 :: d.S.map (dfaP.tagF m.ps)).getD 0 0 = firstT m.empty 0 := rfl
    rw [e]; omega
  | succ k =>
    have hk : k < d.S.length := by omega
    have e : (firstT m.empty 0 :: d.S.map (dfaP.tagF m.ps)).getD (k + 1) 0 = dfaP.tagF m.ps d.S[k] := by
      rw [List.getD_cons_succ, List.getD_eq_getElem?_getD, List.getElem?_map, List.getElem?_eq_getElem hk]; rfl
    rw [e]
    refine ⟨rfl, ?_⟩
    unfold dfaP.tagF
    rcases tag_law hm.rules hm.ok.ps.rules d.S[k] m.ps.classes.length (Nat.le_refl _) with ⟨h1, _⟩ | ⟨_, _, _, _, _, h1, h2, _⟩
    · rw [h1]; omega
    · omega
theorem mk_chk (hm : MOkP m) (hi : MkI m (firstT m.empty 0) (d.S.length + 1) R d) : chk R d.tags = 0 := by
  have hl := hi.len
  have hf := hi.few
  refine ok_chk ⟨?_, ?_, fun q hq b hb => ?_, fun q hq => ?_⟩ ?_
  · show 0 < R.length; omega
  · show R.length ≤ 200; omega
  · have hq : q < R.length := hq
    show -1 ≤ (R.getD q row0).toList.getD b 0 ∧ (R.getD q row0).toList.getD b 0 < (R.length : Int)
    rw [row_getD R q b hb, (hi.cell q (by omega) b hb).1]
    unfold cellT
    by_cases c : toF m.ps (nextF m d.S q) b = C4.zero
    · rw [if_pos c]; omega
    · rw [if_neg c]
      have := idx_lt ((hi.cell q (by omega) b hb).2.resolve_left c)
      omega
  · have hq : q < R.length := hq
    exact (mk_tags hm hi (by omega)).2
  · have h := hi.tags
    unfold TagsOk at h
    rw [h, hl, List.length_cons, List.length_map]
open Classical in
/-- RABIN, SCOTT: a text's tag is the least rule whose expression means it -/
theorem made_tag (h0 : 0 < es.length) (h20 : es.length ≤ 20) (hl : loopM 0 .zero es = (0, m)) (hd : makeD m = some (R, d)) : chk R d.tags = 0 ∧ ∀ s, eng.tagF R d.tags s = (leastL es s, 0) := by
  have hm := make_ok h0 h20 hl
  have hv := make_inv hl
  have hi := makeD_law hd
  have hc := mk_chk hm hi
  refine ⟨hc, fun s => ?_⟩
  show (if chk R d.tags = 0 then (tg (aut R d.tags) (go (aut R d.tags) 0 s), (0 : Int)) else (0, chk R d.tags)) = _
  rw [if_pos hc]
  congr 1
  by_cases hs : s = []
  · subst hs
    show tg (aut R d.tags) 0 = _
    unfold tg
    rw [if_neg (by decide)]
    show d.tags.getD 0 0 = _
    rw [(mk_tags hm hi (Nat.zero_lt_succ _)).1, dif_pos rfl, hv.empty]
    unfold leastL
    congr 1
    refine List.map_congr_left fun e _ => ?_
    cases c : empL e with
    | true => exact (decide_eq_true ((lang_nil e).2 c)).symm
    | false => exact (decide_eq_false (fun h => by rw [(lang_nil e).1 h] at c; cases c)).symm
  · rcases goes_rel hm hi d.tags s hs with ⟨e, hnow⟩ | ⟨n, hn, e, h1, h2⟩
    · rw [e]
      unfold tg
      rw [if_pos (by decide)]
      refine (least_no fun i hi' h => ?_).symm
      obtain ⟨x, hx, _⟩ := (tells_lang hm hv hs (List.getElem?_eq_getElem hi')).2 h
      rw [hnow] at hx; cases hx
    · rw [e]
      unfold tg
      rw [if_neg (by omega), Int.toNat_natCast]
      show d.tags.getD (n + 1) 0 = _
      rw [(mk_tags hm hi (by omega)).1, dif_neg (Nat.succ_ne_zero n)]
      show dfaP.tagF m.ps d.S[n] = _
      unfold dfaP.tagF
      have he : m.empty.length = es.length := by rw [hv.empty, List.length_map]
      have hlow : ∀ i (hi' : i < es.length), Lang es[i] s → ∃ j, j < m.ps.classes.length ∧ d.S[n].mem j = true ∧ m.ps.last.getD j false = true ∧ m.ps.rules.getD j 0 = (i : Int) := fun i hi' h => by
        obtain ⟨x, hx, g1, g2⟩ := (tells_lang hm hv hs (List.getElem?_eq_getElem hi')).2 h
        have hx2 := (runPin hm s).2 x hx
        obtain ⟨j, rfl⟩ := Int.eq_ofNat_of_zero_le hx2.1
        rw [Int.toNat_natCast] at g1 g2
        have := hm.few
        exact ⟨j, by omega, (h1 j (by omega)).2 hx, g2, g1⟩
      rcases tag_law hm.rules hm.ok.ps.rules d.S[n] m.ps.classes.length (Nat.le_refl _) with ⟨g1, g2⟩ | ⟨i, g1, g2, g3, g4, g5, g6, g7⟩
      · rw [g1]
        refine (least_no fun i hi' h => ?_).symm
        obtain ⟨j, q1, q2, q3, _⟩ := hlow i hi' h
        exact g2 j q1 q2 q3
      · obtain ⟨r, hr⟩ := Int.eq_ofNat_of_zero_le g5
        rw [hr] at g4 g6 g7 ⊢
        have hre : r < es.length := by omega
        have := hm.few
        refine (least_eq hre ((tells_lang hm hv hs (List.getElem?_eq_getElem hre)).1 ⟨(i : Int), (h1 i (by omega)).1 g2, by rw [Int.toNat_natCast]; exact g4.symm, by rw [Int.toNat_natCast]; exact g3⟩) fun j hj h => ?_).symm
        obtain ⟨k, q1, q2, q3, q4⟩ := hlow j (by omega) h
        have := g7 k q1 q2 q3
        rw [q4] at this
        omega
end
end Go.Proofs.Ytknojgjdaafboaa.dfaP

/- AbcL -/
namespace Go.Proofs.Ytknojgjdaafboaa.dfaP
open classL rexL placesL smallL
theorem uni_eq {a b c : List Int} (h1 : c.Pairwise (· < ·)) (h2 : ∀ x, (x ∈ a ∨ x ∈ b) ↔ x ∈ c) : uni a b = c :=
  rising_ext (uni_law _ _).1 h1 fun x => by rw [(uni_law _ _).2, h2]
def rowB (f : Nat → Int) : Row := Vector.ofFn fun b : Fin 256 => f b
end Go.Proofs.Ytknojgjdaafboaa.dfaP

/- MadeL -/
namespace Go.Proofs.Ytknojgjdaafboaa.rexL
open classL
theorem emb_inj : ∀ (a b : Re), emb a = emb b → a = b
  | .none, b, h => by cases b <;> simp_all [emb]
  | .empty, b, h => by cases b <;> simp_all [emb]
  | .byte c, b, h => by cases b <;> simp_all [emb]
  | .cat a1 a2, b, h => by
    cases b with
    | cat b1 b2 =>
      simp only [emb, Rx.mk.injEq, List.cons.injEq, and_true, true_and] at h
      rw [emb_inj a1 b1 h.1, emb_inj a2 b2 h.2]
    | _ => simp [emb] at h
  | .alt a1 a2, b, h => by
    cases b with
    | alt b1 b2 =>
      simp only [emb, Rx.mk.injEq, List.cons.injEq, and_true, true_and] at h
      rw [emb_inj a1 b1 h.1, emb_inj a2 b2 h.2]
    | _ => simp [emb] at h
  | .star a1, b, h => by
    cases b with
    | star b1 =>
      simp only [emb, Rx.mk.injEq, List.cons.injEq, and_true, true_and] at h
      rw [emb_inj a1 b1 h]
    | _ => simp [emb] at h
theorem embs_inj : ∀ {l m : List Re}, l.map emb = m.map emb → l = m
  | [], [], _ => rfl
  | [], _ :: _, h => by simp at h
  | _ :: _, [], h => by simp at h
  | a :: l, b :: m, h => by
    simp only [List.map_cons, List.cons.injEq] at h
    rw [emb_inj a b h.1, embs_inj h.2]
end Go.Proofs.Ytknojgjdaafboaa.rexL
namespace Go.Proofs.Ytknojgjdaafboaa.dfaP
open classL rexL placesL smallL
def oneM (a : C4) : MS := ⟨⟨[a], [0], [[]], [true]⟩, [0], [false]⟩
theorem one_loop (a : C4) : loopM 0 .zero [.byte a] = (0, oneM a) := by
  have u0 : uni [] [0] = [0] := uni_eq (by simp) (by simp)
  have s0 : stepM 0 .zero (.byte a) = oneM a := by simp [stepM, nodeF, MS.zero, markF, u0, oneM]
  rw [loopM, s0, if_neg (by simp [oneM]), loopM]
def oneR : List Row := [rowB fun b => if b = 97 then 1 else -1, rowB fun _ => -1]
set_option maxRecDepth 1000000 in
theorem one_make : (makeD (oneM (rangeF 97 97))).map (fun x => (x.1, x.2.tags)) = some (oneR, [-1, 0]) := by kernel_rfl
/-- of the first rules alone -/
theorem least_take (es : List Re) (n : Nat) (s : List UInt8) : leastL (es.take n) s = if leastL es s < (n : Int) then leastL es s else -1 := by
  rcases least_law es s with ⟨h1, h2⟩ | ⟨i, hi, h1, h2, h3⟩
  · rw [h1, if_pos (by omega)]
    refine least_no fun i hi h => ?_
    rw [List.length_take] at hi
    rw [List.getElem_take] at h
    exact h2 i (by omega) h
  · rw [h1]
    by_cases c : (i : Int) < (n : Int)
    · rw [if_pos c]
      have hl : (es.take n).length = min n es.length := List.length_take ..
      refine least_eq (i := i) (by omega) (by rw [List.getElem_take]; exact h2) fun j hj h => ?_
      rw [List.getElem_take] at h
      exact h3 j hj h
    · rw [if_neg c]
      refine least_no fun j hj h => ?_
      rw [List.length_take] at hj
      rw [List.getElem_take] at h
      exact h3 j (by omega) h
end Go.Proofs.Ytknojgjdaafboaa.dfaP
namespace Go.Proofs.Ytknojgjdaafboaa.eng
open Go.RowKit kit mix classL rexL placesL dfaP smallL
theorem one_out : outD (oneM (rangeF 97 97)) = (oneR, [-1, 0], 0) := by
  have h := one_make
  cases hd : makeD (oneM (rangeF 97 97)) with
  | none => rw [hd] at h; cases h
  | some x =>
    rw [hd] at h
    simp only [Option.map_some, Option.some.injEq, Prod.mk.injEq] at h
    obtain ⟨R, d⟩ := x
    have h1 : R = oneR := h.1
    have h2 : d.tags = [-1, 0] := h.2
    rw [outD_0 hd, h1, h2]
theorem one_made : MadeR [.mk 3 (rangeF 97 97) []] (oneR, [-1, 0], true) := by
  have hz := letter_nz (b := 97) (by decide)
  have hf : ∀ e ∈ [Re.byte (rangeF 97 97)], Fit e 1 0 := by
    intro e he
    obtain rfl := List.mem_singleton.1 he
    exact ⟨hz, by simp [Re.size], by simp [Re.hgt]⟩
  refine .inr ⟨[.byte (rangeF 97 97)], _, rfl, hf, by simp, by simp, one_loop _, ?_, by rw [one_out]; rfl⟩
  rw [← one_loop]
  exact make_fit (by simp) (by simp) hf
/-- RABIN, SCOTT -/
theorem madeR_law {rs : List Rx} {x : List Row × List Int × Bool} (h : MadeR rs x) : x.2.2 = false ∨ ∃ es : List Re, rs = es.map emb ∧ (∀ e ∈ es, Fit e 1 0) ∧ 0 < es.length ∧ es.length ≤ 20 ∧ x.2.2 = true ∧ chk x.1 x.2.1 = 0 ∧ ∀ s, tagF x.1 x.2.1 s = (leastL es s, 0) := by
  rcases h with ⟨k, _, _, rfl⟩ | ⟨es, m, rfl, hfit, h0, h20, hl, _, rfl⟩
  · exact .inl rfl
  · cases hd : makeD m with
    | none => rw [outD_8 hd]; exact .inl rfl
    | some y =>
      obtain ⟨R, d⟩ := y
      rw [outD_0 hd]
      obtain ⟨h1, h2⟩ := made_tag h0 h20 hl hd
      exact .inr ⟨es, rfl, hfit, h0, h20, rfl, h1, h2⟩
end Go.Proofs.Ytknojgjdaafboaa.eng

/- SmD -/
namespace Go.Proofs.Ytknojgjdaafboaa.eng
open Go.RowKit kit mix dfaL smallL
theorem runF_ok {R : List Row} {tags : List Int} {s : List UInt8} (h : chk R tags = 0) : runF (R.map Vector.toList) tags s = (go (aut R tags) 0 s, 0) := by
  obtain ⟨hA, _⟩ := chk_ok h
  unfold runF
  rw [if_neg (by simpa [chk] using h), goes_aut hA s 0 (st_zero hA)]
theorem runF_no {R : List Row} {tags : List Int} {s : List UInt8} (h : chk R tags ≠ 0) : runF (R.map Vector.toList) tags s = (0, chk R tags) := by
  unfold runF
  rw [if_pos (by simpa [chk] using h)]; rfl
theorem dfaTag_calls (vr vt : Value) (R : List Row) (tags : List Int) (s : List UInt8) (w : World) (h : DfaM w vr vt R tags) (hs : s.length ≤ 9223372036854775807) :
    Calls Try.prog 7 #[dfaV vr vt, str s] w (Meets (ret (.tuple #[.int .i64 (tagF R tags s).1, .int .i64 (tagF R tags s).2])) w) := by
  have hrun := fun w' (hg : Gr w w') => dfaRun_calls _ _ _ s w' (h.gr hg).isDfa hs
  obtain ⟨bt, ct, rfl, ht1, ht2, ht3⟩ := h.hT
  obtain ⟨br, cr, rfl, _⟩ := h.hR
  unfold tagF
  by_cases hc : chk R tags = 0
  · rw [if_pos hc]
    rw [runF_ok hc] at hrun
    obtain ⟨hA, hlt⟩ := chk_ok hc
    have hst := st_go hA s 0 (st_zero hA)
    unfold St at hst
    have en : (aut R tags).n = R.length := rfl
    unfold tg
    generalize go (aut R tags) 0 s = q at *
    refine enter (args := [dfaV (.slice br R.length cr) (.slice bt tags.length ct), str s]) (n := 26) Try.func7 rfl rfl rfl ?_
    refine T_seq (T_region (TL_box rfl rfl rfl fun g => ?_))
    repeat (first
      | refine qv rfl (qp rfl) rfl rfl ?_ | refine TL_nil ?_ | refine T_seq ?_ | refine T_region ?_ | refine qcT rfl ?_ | refine qcF rfl ?_ | refine T_skip ?_
      | refine T_ret ?_ | refine T_block ?_ | refine E_then ?_ | refine E_thenR ?_ | refine E_blockN ?_ | refine E_blockR ?_
      | refine qv rfl (rr_loadB (i := 0) TyC.ty rfl rfl rfl) rfl rfl ?_ | refine qv rfl (qfld FldC.fld rfl rfl) rfl rfl ?_
      | refine qv rfl (rr_lss rfl rfl (qT (by omega))) rfl rfl ?_ | refine qv rfl (rr_lss rfl rfl (qF (by omega))) rfl rfl ?_
      | refine qv rfl (rr_neq rfl rfl (qT (by omega))) rfl rfl ?_ | refine qv rfl (rr_neq rfl rfl (qF (by omega))) rfl rfl ?_)
    refine TL_call (he2 EntersC.en rfl rfl rfl) (fun w hm => hrun _ hm.below) rfl rfl rfl ?_
    intro _ _
    by_cases c : q < 0
    · rw [if_pos c]
      repeat (first
        | refine qv rfl (qp rfl) rfl rfl ?_ | refine TL_nil ?_ | refine T_seq ?_ | refine T_region ?_ | refine qcT rfl ?_ | refine qcF rfl ?_ | refine T_skip ?_
        | refine T_ret ?_ | refine T_block ?_ | refine E_then ?_ | refine E_thenR ?_ | refine E_blockN ?_ | refine E_blockR ?_
        | refine qv rfl (qfld FldC.fld rfl rfl) rfl rfl ?_ | refine qv rfl (rr_lss rfl rfl (qT (by omega))) rfl rfl ?_
        | refine qv rfl (rr_lss rfl rfl (qF (by omega))) rfl rfl ?_ | refine qv rfl (rr_neq rfl rfl (qT (by omega))) rfl rfl ?_
        | refine qv rfl (rr_neq rfl rfl (qF (by omega))) rfl rfl ?_)
      exact E_ret2 rfl rfl rfl fun w hm => hm.ret
    · rw [if_neg c]
      obtain ⟨m, rfl⟩ : ∃ m : Nat, q = m := ⟨q.toNat, by omega⟩
      have hm : m < tags.length := by omega
      rw [Int.toNat_natCast, aut_tag hm]
      obtain ⟨b, off, rfl, hr⟩ := ht3 (by omega)
      have hat := at_el (L := [blkO g (dfaV (.slice br R.length cr) (.slice (some ⟨b, off, none⟩) tags.length ct)).cells 26]) (c := 1) (f := kit.intC) (fun _ => rfl) hr hm 0 _ rfl
      repeat (first
        | refine qv rfl (qp rfl) rfl rfl ?_ | refine TL_nil ?_ | refine T_seq ?_ | refine T_region ?_ | refine qcT rfl ?_ | refine qcF rfl ?_ | refine T_skip ?_
        | refine T_ret ?_ | refine T_block ?_ | refine E_then ?_ | refine E_thenR ?_ | refine E_blockN ?_ | refine E_blockR ?_
        | refine qv rfl (rr_load1 TyC.ty rfl (at_blk (i := 0) rfl rfl)) rfl rfl ?_ | refine qv rfl (rr_idxc Und.eq TyC.ty rfl rfl hm) rfl rfl ?_
        | refine qv rfl (rr_load1 TyC.ty rfl hat) rfl rfl ?_ | refine qv rfl (qfld FldC.fld rfl rfl) rfl rfl ?_
        | refine qv rfl (rr_lss rfl rfl (qT (by omega))) rfl rfl ?_ | refine qv rfl (rr_lss rfl rfl (qF (by omega))) rfl rfl ?_
        | refine qv rfl (rr_neq rfl rfl (qT (by omega))) rfl rfl ?_ | refine qv rfl (rr_neq rfl rfl (qF (by omega))) rfl rfl ?_)
      exact E_ret2 rfl rfl rfl fun w hm => hm.ret
  · rw [if_neg hc]
    rw [runF_no hc] at hrun
    generalize chk R tags = e at *
    refine enter (args := [dfaV (.slice br R.length cr) (.slice bt tags.length ct), str s]) (n := 26) Try.func7 rfl rfl rfl ?_
    refine T_seq (T_region (TL_box rfl rfl rfl fun g => ?_))
    repeat (first
      | refine qv rfl (qp rfl) rfl rfl ?_ | refine TL_nil ?_ | refine T_seq ?_ | refine T_region ?_ | refine qcT rfl ?_ | refine qcF rfl ?_ | refine T_skip ?_
      | refine T_ret ?_ | refine T_block ?_ | refine E_then ?_ | refine E_thenR ?_ | refine E_blockN ?_ | refine E_blockR ?_
      | refine qv rfl (rr_loadB (i := 0) TyC.ty rfl rfl rfl) rfl rfl ?_ | refine qv rfl (qfld FldC.fld rfl rfl) rfl rfl ?_
      | refine qv rfl (rr_lss rfl rfl (qT (by omega))) rfl rfl ?_ | refine qv rfl (rr_lss rfl rfl (qF (by omega))) rfl rfl ?_
      | refine qv rfl (rr_neq rfl rfl (qT (by omega))) rfl rfl ?_ | refine qv rfl (rr_neq rfl rfl (qF (by omega))) rfl rfl ?_)
    refine TL_call (he2 EntersC.en rfl rfl rfl) (fun w hm => hrun _ hm.below) rfl rfl rfl ?_
    intro _ _
    repeat (first
      | refine qv rfl (qp rfl) rfl rfl ?_ | refine TL_nil ?_ | refine T_seq ?_ | refine T_region ?_ | refine qcT rfl ?_ | refine qcF rfl ?_ | refine T_skip ?_
      | refine T_ret ?_ | refine T_block ?_ | refine E_then ?_ | refine E_thenR ?_ | refine E_blockN ?_ | refine E_blockR ?_
      | refine qv rfl (rr_neq (b := true) rfl rfl (decide_eq_true hc)) rfl rfl ?_ | refine qv rfl (qfld FldC.fld rfl rfl) rfl rfl ?_
      | refine qv rfl (rr_lss rfl rfl (qT (by omega))) rfl rfl ?_ | refine qv rfl (rr_lss rfl rfl (qF (by omega))) rfl rfl ?_
      | refine qv rfl (rr_neq rfl rfl (qT (by omega))) rfl rfl ?_ | refine qv rfl (rr_neq rfl rfl (qF (by omega))) rfl rfl ?_)
    exact E_ret2 rfl rfl rfl fun w hm => hm.ret
end Go.Proofs.Ytknojgjdaafboaa.eng

/- Fam -/
namespace Go.Proofs.Ytknojgjdaafboaa.eng
open Go.RowKit kit mix
def famP (D : Nat → Prop) (f : Nat → Own) : Own where
  blk := none
  more := fun k => ∃ i, D i ∧ (f i).foot k
  holds := fun w => (∀ i, D i → (f i).holds w) ∧ ∀ i j, D i → D j → i ≠ j → ∀ k, (f i).foot k → ¬ (f j).foot k
  lt := fun w h k hk => by
    rcases hk with hk | ⟨i, hi, hk⟩
    · cases hk
    · exact (f i).lt w (h.1 i hi) k hk
  stay := fun w w' h hs hb => ⟨fun i hi => (f i).stay w w' (h.1 i hi) hs fun k hk => hb k (.inr ⟨i, hi, hk⟩), h.2⟩
theorem fam_congr {D D' : Nat → Prop} {f f' : Nat → Own} (h1 : ∀ k, D' k → D k) (h2 : ∀ k, D' k → f' k = f k) (w : World) (h : (famP D f).holds w) : (famP D' f').holds w :=
  ⟨fun i hi => by rw [h2 i hi]; exact h.1 i (h1 i hi), fun i j hi hj hij => by rw [h2 i hi, h2 j hj]; exact h.2 i j (h1 i hi) (h1 j hj) hij⟩
theorem fam_foot {D D' : Nat → Prop} {f f' : Nat → Own} (h1 : ∀ k, D' k → D k) (h2 : ∀ k, D' k → f' k = f k) (k : Nat) (h : (famP D' f').foot k) : (famP D f).foot k := by
  rcases h with h | ⟨i, hi, hk⟩
  · cases h
  · exact .inr ⟨i, h1 i hi, by rw [← h2 i hi]; exact hk⟩
/-- one more -/
def upd (f : Nat → Own) (i : Nat) (o : Own) : Nat → Own := fun k => if k = i then o else f k
theorem upd_ne {f : Nat → Own} {i j : Nat} {o : Own} (h : j ≠ i) : upd f i o j = f j := by unfold upd; rw [if_neg h]
theorem upd_eq {f : Nat → Own} {i : Nat} {o : Own} : upd f i o i = o := by unfold upd; rw [if_pos rfl]
theorem fam_put {D : Nat → Prop} {f : Nat → Own} {i : Nat} {o : Own} {w : World} (hi : ¬ D i) (h : (famP D f).holds w) (ho : o.holds w) (ha : ∀ k, (famP D f).foot k → ¬ o.foot k) : (famP (fun k => D k ∨ k = i) (upd f i o)).holds w := by
  have hf : ∀ j, D j → upd f i o j = f j := fun j hj => upd_ne fun e => hi (by subst e; exact hj)
  have hg : upd f i o i = o := upd_eq
  refine ⟨fun j hj => ?_, fun j k hj hk hjk q hq hq' => ?_⟩
  · rcases hj with hj | rfl
    · rw [hf j hj]; exact h.1 j hj
    · rw [hg]; exact ho
  · rcases hj with hj | rfl <;> rcases hk with hk | rfl
    · rw [hf j hj] at hq; rw [hf k hk] at hq'; exact h.2 j k hj hk hjk q hq hq'
    · rw [hf j hj] at hq; rw [hg] at hq'; exact ha q (.inr ⟨j, hj, hq⟩) hq'
    · rw [hg] at hq; rw [hf k hk] at hq'; exact ha q (.inr ⟨k, hk, hq'⟩) hq
    · exact hjk rfl
theorem fam_putF {D : Nat → Prop} {f : Nat → Own} {i : Nat} {o : Own} (hi : ¬ D i) (k : Nat) (h : (famP (fun k => D k ∨ k = i) (upd f i o)).foot k) : (famP D f).foot k ∨ o.foot k := by
  rcases h with h | ⟨j, hj, hk⟩
  · cases h
  · rcases hj with hj | rfl
    · exact .inl (.inr ⟨j, hj, by rw [upd_ne fun e => hi (by subst e; exact hj)] at hk; exact hk⟩)
    · exact .inr (by rw [upd_eq] at hk; exact hk)
section
variable {P : Program} {n : Nat} {W : Base} {fr : Fr} {L : List Own} {Q : Exit → Act → World → Prop} {ops : Array Oper} {rest : List Oper} {d : Nat}
theorem Mem.split {w : World} {q : Nat} {o : Own} (o1 o2 : Own) (h : Mem W L w) (hq : L[q]? = some o) (h1 : ∀ w, o.holds w → o1.holds w) (h2 : ∀ w, o.holds w → o2.holds w) (f1 : ∀ k, o1.foot k → o.foot k) (f2 : ∀ k, o2.foot k → o.foot k) (ha : ∀ w, o.holds w → ∀ k, o1.foot k → ¬ o2.foot k) : Mem W (L.set q o1 ++ [o2]) w := by
  have hr := h.reown o1 hq h1 f1
  have hoq := h.owns.all q o hq
  have hlen : q < L.length := (List.getElem?_eq_some_iff.1 hq).1
  refine ⟨h.low, OwnsP.both hr.owns (OwnsP.one (h2 w hoq.1) fun k hk => hoq.2 k (f2 k hk)) fun i j a b hi hj k hk hk' => ?_⟩
  match j, hj with
  | 0, hj =>
    simp only [List.getElem?_cons_zero, Option.some.injEq] at hj; subst hj
    by_cases e : q = i
    · subst e
      rw [List.getElem?_set_self hlen] at hi
      simp only [Option.some.injEq] at hi; subst hi
      exact ha w hoq.1 k hk hk'
    · rw [List.getElem?_set_ne e] at hi
      exact h.owns.apart i q a o (Ne.symm e) hi hq k hk (f2 k hk')
  | j + 1, hj => simp at hj
theorem Mem.merge2A {w : World} (o : Own) (i j : Nat) (js : List Nat) {o1 o2 : Own} {R : List Own} (h : Mem W L w) (hn : ([i, j] ++ js).Nodup) (h1 : L[i]? = some o1) (h2 : L[j]? = some o2) (hR : R = js.filterMap fun i => L[i]?) (hf : ∀ k, o.foot k → o1.foot k ∨ o2.foot k) (hh : ∀ w, o1.holds w → o2.holds w → (∀ k, o1.foot k → ¬ o2.foot k) → o.holds w) : Mem W (R ++ [o]) w := by
  have hij : i ≠ j := fun e => by subst e; simp at hn
  have ha := h.owns.apart i j o1 o2 hij h1 h2
  refine Mem.merge o (h.pick ([i, j] ++ js) hn ?_) hf (fun a b => hh w a b ha)
  rw [List.filterMap_append, ← hR]
  congr 1
  rw [List.filterMap_cons_some (by exact h1), List.filterMap_cons_some (by exact h2)]; rfl
theorem Mem.take {w : World} {q : Nat} {D : Nat → Prop} {f : Nat → Own} (i : Nat) (h : Mem W L w) (hq : L[q]? = some (famP D f)) (hi : D i) : Mem W (L.set q (famP (fun k => D k ∧ k ≠ i) f) ++ [f i]) w :=
  h.split _ _ hq (fun w h => fam_congr (fun k h => h.1) (fun _ _ => rfl) w h) (fun w h => h.1 i hi) (fun k h => fam_foot (fun k h => h.1) (fun _ _ => rfl) k h) (fun k h => .inr ⟨i, hi, h⟩) fun w h k hk hk' => by
    rcases hk with hk | ⟨j, ⟨hj, hne⟩, hk⟩
    · cases hk
    · exact h.2 j i hj hi hne k hk hk'
theorem Mem.put {w : World} {D D' : Nat → Prop} {f f' : Nat → Own} {o : Own} {R : List Own} (x q j : Nat) (js : List Nat) (h : Mem W L w) (hn : ([q, j] ++ js).Nodup) (hq : L[q]? = some (famP D f)) (hj : L[j]? = some o) (hR : R = js.filterMap fun i => L[i]?) (hx : ¬ D x) (hD : ∀ k, D' k → D k ∨ k = x) (hf : ∀ k, D' k → f' k = upd f x o k) : Mem W (R ++ [famP D' f']) w :=
  h.merge2A _ q j js hn hq hj hR (fun k hk => fam_putF hx k (fam_foot hD hf k hk)) fun w h1 h2 h3 => fam_congr hD hf w (fam_put hx h1 h2 h3)
section
variable {α : Type}
end
end
end Go.Proofs.Ytknojgjdaafboaa.eng

/- SmY -/
namespace Go.Proofs.Ytknojgjdaafboaa.eng
open Go.RowKit kit mix dfaL smallL
theorem chk_rng {R : List Row} {tags : List Int} (h : chk R tags = 0) : (∀ r ∈ R, ∀ x ∈ r.toList, -32768 ≤ x ∧ x ≤ 32767) ∧ ∀ x ∈ tags, kit.okI64 x := by
  obtain ⟨hA, hl⟩ := chk_ok h
  have hle : R.length ≤ 200 := hA.le
  refine ⟨fun r hr x hx => ?_, fun x hx => ?_⟩
  · obtain ⟨i, hi, rfl⟩ := List.mem_iff_getElem.1 hr
    obtain ⟨b, hb, rfl⟩ := List.mem_iff_getElem.1 hx
    have hb' : b < 256 := by simpa using hb
    have := hA.step i hi b hb'
    rw [aut_d hi hb'] at this
    have e : (aut R tags).n = R.length := rfl
    rw [Vector.getElem_toList]
    omega
  · obtain ⟨i, hi, rfl⟩ := List.mem_iff_getElem.1 hx
    have := hA.tags i (by show i < R.length; omega)
    rw [aut_tag hi] at this
    exact ⟨by omega, by omega⟩
theorem Mem.dfaM {B : Base} {w : World} {L : List Own} {i j : Nat} {vr vt : Value} {R : List Row} {tags : List Int} (hm : Mem B L w) (hi : L[i]? = some (rowO 66 256 vr R.length (R.flatMap rowC))) (hj : L[j]? = some (rowO 3 1 vt tags.length (tags.flatMap kit.intC))) (hc : chk R tags = 0) : DfaM w vr vt R tags :=
  ⟨sl_row hi _ hm, sl_row hj _ hm, (chk_rng hc).1, (chk_rng hc).2⟩
end Go.Proofs.Ytknojgjdaafboaa.eng

/- RestE -/
namespace Go.Proofs.Ytknojgjdaafboaa.eng
open Go.RowKit kit mix
theorem restE (n m : Int) (w : World) (hn0 : -9223372036854775808 ≤ n) (hn1 : n ≤ 9223372036854775807) (hm0 : 0 < m) (hm1 : m ≤ 9223372036854775807) :
    Calls Try.prog 6 #[.int .i64 n, .int .i64 m] w (Meets (ret (.int .i64 (n % m))) w) := by
  have hm : ¬ m = 0 := by omega
  have hr1 := Int.emod_nonneg n hm
  have hr2 := Int.emod_lt_of_pos n hm0
  refine enter (args := [.int .i64 n, .int .i64 m]) (n := 15) Try.func6 rfl rfl rfl ?_
  have hrem : ∀ w, (binOp .rem 2 (.int .i64 n) (.int .i64 m)).run Try.prog w = .ok (.int .i64 (n.tmod m)) w := fun w => by simp [binOp, Op.intDiv, hm]
  by_cases h : n.tmod m < 0
  · have e : n.tmod m + m = n % m := by
      rw [Int.tmod_eq_emod] at h ⊢
      split at h
      · omega
      · rename_i hd
        rw [if_neg hd]
        have : (m.natAbs : Int) = m := by omega
        omega
    repeat (first
      | refine TL_val (rr_move rfl) rfl rfl rfl ?_
      | refine TL_val (rr_assign rfl) rfl rfl rfl ?_
      | refine TL_nil ?_
      | refine T_seq ?_
      | refine T_region ?_
      | refine T_condT rfl ?_
      | refine T_condF rfl ?_
      | refine T_skip ?_
      | refine T_ret ?_
      | refine E_then ?_
      | refine E_thenR ?_
      | refine TL_val (rr_int rfl rfl hrem) rfl rfl rfl ?_
      | refine TL_val (rr_lss rfl rfl (decide_eq_true (by omega))) rfl rfl rfl ?_
      | refine TL_val (rr_lss rfl rfl (decide_eq_false (by omega))) rfl rfl rfl ?_
      | refine TL_val (rr_add64 rfl rfl (by omega) (by omega) rfl) rfl rfl rfl ?_)
    rw [e]
    exact E_ret1 rfl rfl fun w hm => hm.ret
  · have e : n.tmod m = n % m := by
      rw [Int.tmod_eq_emod] at h ⊢
      split at h
      · rename_i hd
        rw [if_pos hd]; omega
      · rename_i hd
        rw [if_neg hd]
        have : (m.natAbs : Int) = m := by omega
        omega
    repeat (first
      | refine TL_val (rr_move rfl) rfl rfl rfl ?_
      | refine TL_val (rr_assign rfl) rfl rfl rfl ?_
      | refine TL_nil ?_
      | refine T_seq ?_
      | refine T_region ?_
      | refine T_condT rfl ?_
      | refine T_condF rfl ?_
      | refine T_skip ?_
      | refine T_ret ?_
      | refine E_then ?_
      | refine E_thenR ?_
      | refine TL_val (rr_int rfl rfl hrem) rfl rfl rfl ?_
      | refine TL_val (rr_lss rfl rfl (decide_eq_true (by omega))) rfl rfl rfl ?_
      | refine TL_val (rr_lss rfl rfl (decide_eq_false (by omega))) rfl rfl rfl ?_
      | refine TL_val (rr_add64 rfl rfl (by omega) (by omega) rfl) rfl rfl rfl ?_)
    rw [e]
    exact E_ret1 rfl rfl fun w hm => hm.ret
end Go.Proofs.Ytknojgjdaafboaa.eng

/- Slm -/
namespace Go.Proofs.Ytknojgjdaafboaa.eng
open Go.RowKit kit mix
section
variable {P : Program} {n : Nat} {W : Base} {fr : Fr} {L : List Own} {dst : Option Tmp} {ty : TypeId} {pos : String} {after : Array Edge} {guard : Option (Nat × Bool)}
theorem rr_slmax {t e : TypeId} {x z z2 : Operand} {agg : Bool} {c j m len cap : Nat} {base : Option Addr} {k k2 : IntKind} (ht : P.underlying t = some (.slice e)) (he : Ty P e agg c) (hx : ev fr x = some (.slice base len cap)) (hz : ev fr z = some (.int k (j : Int))) (hz2 : ev fr z2 = some (.int k2 (m : Int))) (h1 : j ≤ m) (h2 : m ≤ cap) :
    RR P n W ⟨dst, .slice t x none (some z) (some z2), ty, pos, after, guard⟩ fr L (.slice base j m) := .mk fun a w hr _ => by
  have hb : ∀ (k : IntKind) (p q : Nat) (cd : BoundsCode), p ≤ q → (Instr.sliceBound (.int k (p : Int)) q cd).run P w = .ok p w := fun k p q cd h => by
    have : (0 : Int) ≤ (p : Int) ∧ (p : Int) ≤ (q : Int) := by omega
    simp [Instr.sliceBound, asIntOf, this]
  have ha : (if m = 0 then base else base.map fun (q : Addr) => q.add (0 * c)) = base := by
    split
    · rfl
    · cases base with
      | none => rfl
      | some q => simp [Addr.add]
  simp [execOp, hr.ev hx, hr.ev hz, hr.ev hz2, Instr.sliceAt, Instr.slice, run_underlying ht, Instr.sliceBounds, he.size, hb k2 m cap _ h2, hb k j m _ h1]
  try (cases base <;> simp [Addr.add])
end
end Go.Proofs.Ytknojgjdaafboaa.eng

/- DfaFewW -/
namespace Go.Proofs.Ytknojgjdaafboaa.dfaFew
open Go.RowKit kit mix eng classL rexL placesL dfaP smallL
/-- the first ones of a slice -/
theorem slf_take {α : Type} {s : Shp α} {F : Nat → Prop} {w : World} {base : Option Addr} {cap n : Nat} {l : List α} (h : SlF s F w (.slice base l.length cap) l) (hn : n ≤ l.length) : SlF s F w (.slice base n n) (l.take n) := by
  obtain ⟨b0, c0, e, h1, h2, h3⟩ := h
  simp only [Value.slice.injEq] at e
  obtain ⟨rfl, -, rfl⟩ := e
  have hl : (l.take n).length = n := by rw [List.length_take]; omega
  refine ⟨base, n, by rw [hl], by omega, by omega, fun h0 => ?_⟩
  obtain ⟨b, off, q1, q2, q3⟩ := h3 (by omega)
  refine ⟨b, off, q1, q2, fun i hi => ?_⟩
  rw [List.getElem_take]
  exact q3 i (by omega)
set_option maxRecDepth 100000 in
set_option maxHeartbeats 8000000 in
theorem walk (w : World) (v : Value) (rs : List Rx) (hv : SlF rexS (Low w) w v rs) (hrl : rs.length ≤ 140737488351232) (k : Int) (hk : kit.okI64 k) (s : List UInt8) (hs : s.length ≤ 140737488351232) :
    Calls Try.prog 3 #[v, .int .i64 k, str s] w (Meets (ret (.bool true)) w) := by
  have hvg := fun w' (hg : Gr w w') => slr_gr hv hg
  obtain ⟨bk, ck, rfl, hck, hmx, -⟩ := hv
  unfold maxLen at hmx
  have hl := fun w => letter_calls 97 w ⟨by decide, by decide⟩
  have h0 := fun g w' h => made_calls (.slice (some ⟨g, 0, none⟩) 1 1) _ _ w' h one_made
  have ok3 : kit.okI64 3 := ⟨by decide, by decide⟩
  obtain ⟨x, hx⟩ := madeR_of rs
  have hlaw := madeR_law hx
  have hma := fun w' (hg : Gr w w') => made_calls (.slice bk rs.length ck) rs x w' (hvg w' hg) hx
  have hm0 := Int.emod_nonneg k (b := (rs.length : Int) + 1) (by omega)
  have hm1 := Int.emod_lt_of_pos k (b := (rs.length : Int) + 1) (by omega)
  have hrest := fun w => restE k ((rs.length : Int) + 1) w hk.1 hk.2 (by omega) (by omega)
  obtain ⟨n, hn⟩ := Int.eq_ofNat_of_zero_le hm0
  rw [hn] at hrest hm1
  clear hm0 hn
  have hn : n ≤ rs.length := by omega
  obtain ⟨x2, hx2⟩ := madeR_of (rs.take n)
  have hlaw2 := madeR_law hx2
  have hma2 := fun w' (hg : Gr w w') => made_calls (.slice bk n n) (rs.take n) x2 w' (slf_take (hvg w' hg) hn) hx2
  clear hx hx2
  generalize classL.rangeF 97 97 = c at *
  generalize oneR = R1 at *
  obtain ⟨R, T, ok⟩ := x
  obtain ⟨R2, T2, ok2⟩ := x2
  dsimp only at hlaw hlaw2
  unfold mdSp at h0 hma hma2
  dsimp only at h0 hma hma2
  refine enter (args := [.slice bk rs.length ck, .int .i64 k, str s]) (n := 82) Try.func3 rfl rfl rfl ?_
  repeat (first
    | refine qv rfl (qp rfl) rfl rfl ?_ | refine TL_nil ?_ | refine T_seq ?_ | refine T_region ?_ | refine qcT rfl ?_ | refine qcF rfl ?_ | refine T_skip ?_
    | refine T_ret ?_ | refine E_then ?_ | refine E_thenR ?_ | refine qs rfl rfl rfl rfl rfl rfl ?_
    | ((try refine qg rfl rfl rfl ?_); first | refine qv rfl (qp rfl) rfl rfl ?_ | refine qv rfl (qlen Und.eq rfl) rfl rfl ?_ | refine qv rfl (rr_not rfl rfl) rfl rfl ?_ | refine qv rfl (rr_geq rfl rfl (qT (by omega))) rfl rfl ?_ | refine qv rfl (rr_geq rfl rfl (qF (by omega))) rfl rfl ?_ | refine qv rfl (rr_eql rfl rfl (qT (by omega))) rfl rfl ?_ | refine qv rfl (rr_eql rfl rfl (qF (by omega))) rfl rfl ?_ | refine qv rfl (rr_add64 rfl rfl (by omega) (by omega) rfl) rfl rfl ?_ | refine qv rfl (qfld FldC.fld rfl rfl) rfl rfl ?_ | refine qv rfl (rr_neq rfl rfl (qT (by omega))) rfl rfl ?_ | refine qv rfl (rr_neq rfl rfl (qF (by omega))) rfl rfl ?_))
  refine TL_call (he1 EntersC.en rfl rfl) (fun w hm => hl _) rfl rfl rfl ?_
  intro _ _
  conv => arg 8; simp only [zA, zB, zC, zD, zE, zF, zG, zH, zI, rowS, ret, id_eq]
  repeat (first
    | refine qv rfl (qp rfl) rfl rfl ?_ | refine TL_nil ?_ | refine T_seq ?_ | refine T_region ?_ | refine qcT rfl ?_ | refine qcF rfl ?_ | refine T_skip ?_
    | refine T_ret ?_ | refine E_then ?_ | refine E_thenR ?_ | refine qs rfl rfl rfl rfl rfl rfl ?_
    | ((try refine qg rfl rfl rfl ?_); first | refine qv rfl (qp rfl) rfl rfl ?_ | refine qv rfl (qlen Und.eq rfl) rfl rfl ?_ | refine qv rfl (rr_not rfl rfl) rfl rfl ?_ | refine qv rfl (rr_geq rfl rfl (qT (by omega))) rfl rfl ?_ | refine qv rfl (rr_geq rfl rfl (qF (by omega))) rfl rfl ?_ | refine qv rfl (rr_eql rfl rfl (qT (by omega))) rfl rfl ?_ | refine qv rfl (rr_eql rfl rfl (qF (by omega))) rfl rfl ?_ | refine qv rfl (rr_add64 rfl rfl (by omega) (by omega) rfl) rfl rfl ?_ | refine qv rfl (qfld FldC.fld rfl rfl) rfl rfl ?_ | refine qv rfl (rr_neq rfl rfl (qT (by omega))) rfl rfl ?_ | refine qv rfl (rr_neq rfl rfl (qF (by omega))) rfl rfl ?_))
  refine TL_one (cs := (rexC 3 c (.slice none 0 0)).toArray) rfl rfl rfl rfl rfl fun g16 => ?_
  conv => arg 8; simp only [zA, zB, zC, zD, zE, zF, zG, zH, zI, rowS, ret, id_eq]
  refine TL_call (he1 EntersC.en rfl rfl) (fun w hm => h0 g16 w (one_rexs (hm.get (i := 0) rfl) (leaf_rex ok3))) rfl rfl rfl ?_
  rintro ⟨vr1, vt1⟩ _
  conv => arg 8; simp only [zA, zB, zC, zD, zE, zF, zG, zH, zI, rowS, ret, id_eq, dfaV]
  conv => arg 7; simp only [dfaV]
  refine TL_slv (i := 1) rfl fun _ a1 => TL_slv (i := 2) rfl fun _ a2 => ?_
  refine TL_know (i := 2) rfl row_sl fun hrow => ?_
  obtain ⟨at1, ct1, rfl, hat1⟩ := hrow
  obtain ⟨gt1, rfl⟩ := hat1 (by decide)
  repeat (first
    | refine qv rfl (qp rfl) rfl rfl ?_ | refine TL_nil ?_ | refine T_seq ?_ | refine T_region ?_ | refine qcT rfl ?_ | refine qcF rfl ?_ | refine T_skip ?_
    | refine T_ret ?_ | refine E_then ?_ | refine E_thenR ?_ | refine qs rfl rfl rfl rfl rfl rfl ?_
    | ((try refine qg rfl rfl rfl ?_); first | refine qv rfl (qp rfl) rfl rfl ?_ | refine qv rfl (qlen Und.eq rfl) rfl rfl ?_ | refine qv rfl (rr_not rfl rfl) rfl rfl ?_ | refine qv rfl (rr_geq rfl rfl (qT (by omega))) rfl rfl ?_ | refine qv rfl (rr_geq rfl rfl (qF (by omega))) rfl rfl ?_ | refine qv rfl (rr_eql rfl rfl (qT (by omega))) rfl rfl ?_ | refine qv rfl (rr_eql rfl rfl (qF (by omega))) rfl rfl ?_ | refine qv rfl (rr_add64 rfl rfl (by omega) (by omega) rfl) rfl rfl ?_ | refine qv rfl (qfld FldC.fld rfl rfl) rfl rfl ?_ | refine qv rfl (rr_neq rfl rfl (qT (by omega))) rfl rfl ?_ | refine qv rfl (rr_neq rfl rfl (qF (by omega))) rfl rfl ?_))
  refine TL_new rfl fun g7 => ?_
  conv => arg 8; simp only [zA, zB, zC, zD, zE, zF, zG, zH, zI, rowS, ret, id_eq]
  refine TL_storeB (i := 3) (cs' := #[vr1, .slice (some ⟨gt1, 0, none⟩) 2 ct1]) rfl rfl rfl rfl (by simp only [List.all_cons, List.all_nil, a1]; rfl) rfl ?_
  conv => arg 8; simp only [zA, zB, zC, zD, zE, zF, zG, zH, zI, rowS, ret, id_eq]
  clear h0 hl
  repeat (first
    | refine qv rfl (qp rfl) rfl rfl ?_ | refine TL_nil ?_ | refine T_seq ?_ | refine T_region ?_ | refine qcT rfl ?_ | refine qcF rfl ?_ | refine T_skip ?_
    | refine T_ret ?_ | refine E_then ?_ | refine E_thenR ?_ | refine qs rfl rfl rfl rfl rfl rfl ?_
    | ((try refine qg rfl rfl rfl ?_); first | refine qv rfl (qp rfl) rfl rfl ?_ | refine qv rfl (rr_load1 (v := .slice (some ⟨gt1, 0, none⟩) 2 ct1) TyC.ty rfl (at_blk (i := 3) rfl rfl)) rfl rfl ?_ | refine qv rfl (rr_load1 (v := .int .i64 (-1)) TyC.ty rfl (at_row (i := 2) rfl rfl)) rfl rfl ?_ | refine qv rfl (qlen Und.eq rfl) rfl rfl ?_ | refine qv rfl (rr_not rfl rfl) rfl rfl ?_ | refine qv rfl (rr_geq rfl rfl (qT (by omega))) rfl rfl ?_ | refine qv rfl (rr_geq rfl rfl (qF (by omega))) rfl rfl ?_ | refine qv rfl (rr_eql rfl rfl (qT (by omega))) rfl rfl ?_ | refine qv rfl (rr_eql rfl rfl (qF (by omega))) rfl rfl ?_ | refine qv rfl (rr_add64 rfl rfl (by omega) (by omega) rfl) rfl rfl ?_ | refine qv rfl (rr_neq (b := false) rfl rfl (decide_eq_false (by decide))) rfl rfl ?_ | refine qv rfl (rr_idxc (j := 0) Und.eq TyC.ty rfl rfl (by decide)) rfl rfl ?_ | refine qv rfl (qfld FldC.fld rfl rfl) rfl rfl ?_ | refine qv rfl (rr_neq rfl rfl (qT (by omega))) rfl rfl ?_ | refine qv rfl (rr_neq rfl rfl (qF (by omega))) rfl rfl ?_))
  refine TL_pick [] (by decide) rfl ?_
  refine TL_call (he1 EntersC.en rfl rfl) (fun w hm => hma _ hm.below) rfl rfl rfl ?_
  rintro ⟨vr2, vt2⟩ _
  conv => arg 8; simp only [zA, zB, zC, zD, zE, zF, zG, zH, zI, rowS, ret, id_eq, dfaV]
  conv => arg 7; simp only [dfaV]
  refine TL_slv (i := 0) rfl fun _ b1 => TL_slv (i := 1) rfl fun _ b2 => ?_
  repeat (first
    | refine qv rfl (qp rfl) rfl rfl ?_ | refine TL_nil ?_ | refine T_seq ?_ | refine T_region ?_ | refine qcT rfl ?_ | refine qcF rfl ?_ | refine T_skip ?_
    | refine T_ret ?_ | refine E_then ?_ | refine E_thenR ?_ | refine qs rfl rfl rfl rfl rfl rfl ?_
    | ((try refine qg rfl rfl rfl ?_); first | refine qv rfl (qp rfl) rfl rfl ?_ | refine qv rfl (qlen Und.eq rfl) rfl rfl ?_ | refine qv rfl (rr_not rfl rfl) rfl rfl ?_ | refine qv rfl (rr_geq rfl rfl (qT (by omega))) rfl rfl ?_ | refine qv rfl (rr_geq rfl rfl (qF (by omega))) rfl rfl ?_ | refine qv rfl (rr_eql rfl rfl (qT (by omega))) rfl rfl ?_ | refine qv rfl (rr_eql rfl rfl (qF (by omega))) rfl rfl ?_ | refine qv rfl (rr_add64 rfl rfl (by omega) (by omega) rfl) rfl rfl ?_ | refine qv rfl (qfld FldC.fld rfl rfl) rfl rfl ?_ | refine qv rfl (rr_neq rfl rfl (qT (by omega))) rfl rfl ?_ | refine qv rfl (rr_neq rfl rfl (qF (by omega))) rfl rfl ?_))
  refine TL_new rfl fun g9 => ?_
  conv => arg 8; simp only [zA, zB, zC, zD, zE, zF, zG, zH, zI, rowS, ret, id_eq]
  refine TL_storeB (i := 2) (cs' := #[vr2, vt2]) rfl rfl rfl rfl (by simp only [List.all_cons, List.all_nil, b1, b2]; rfl) rfl ?_
  conv => arg 8; simp only [zA, zB, zC, zD, zE, zF, zG, zH, zI, rowS, ret, id_eq]
  clear hma
  repeat (first
    | refine qv rfl (qp rfl) rfl rfl ?_ | refine TL_nil ?_ | refine T_seq ?_ | refine T_region ?_ | refine qcT rfl ?_ | refine qcF rfl ?_ | refine T_skip ?_
    | refine T_ret ?_ | refine E_then ?_ | refine E_thenR ?_ | refine qs rfl rfl rfl rfl rfl rfl ?_
    | ((try refine qg rfl rfl rfl ?_); first | refine qv rfl (qp rfl) rfl rfl ?_ | refine qv rfl (rr_add64 (r := (rs.length : Int) + 1) rfl rfl (by omega) (by omega) rfl) rfl rfl ?_ | refine qv rfl (qlen Und.eq rfl) rfl rfl ?_ | refine qv rfl (rr_not rfl rfl) rfl rfl ?_ | refine qv rfl (rr_geq rfl rfl (qT (by omega))) rfl rfl ?_ | refine qv rfl (rr_geq rfl rfl (qF (by omega))) rfl rfl ?_ | refine qv rfl (rr_eql rfl rfl (qT (by omega))) rfl rfl ?_ | refine qv rfl (rr_eql rfl rfl (qF (by omega))) rfl rfl ?_ | refine qv rfl (rr_add64 rfl rfl (by omega) (by omega) rfl) rfl rfl ?_ | refine qv rfl (qfld FldC.fld rfl rfl) rfl rfl ?_ | refine qv rfl (rr_neq rfl rfl (qT (by omega))) rfl rfl ?_ | refine qv rfl (rr_neq rfl rfl (qF (by omega))) rfl rfl ?_))
  refine TL_call (he2 EntersC.en rfl rfl rfl) (fun w hm => hrest _) rfl rfl rfl ?_
  intro _ _
  conv => arg 8; simp only [zA, zB, zC, zD, zE, zF, zG, zH, zI, rowS, ret, id_eq]
  clear hrest
  rcases hlaw with rfl | ⟨es, rfl, hfit, h0, h20, rfl, hc1, hl1⟩
  · repeat (first
      | refine qv rfl (qp rfl) rfl rfl ?_ | refine TL_nil ?_ | refine T_seq ?_ | refine T_region ?_ | refine qcT rfl ?_ | refine qcF rfl ?_ | refine T_skip ?_
      | refine T_ret ?_ | refine E_then ?_ | refine E_thenR ?_ | refine qs rfl rfl rfl rfl rfl rfl ?_
      | ((try refine qg rfl rfl rfl ?_); first | refine qv rfl (qp rfl) rfl rfl ?_ | refine qv rfl (qlen Und.eq rfl) rfl rfl ?_ | refine qv rfl (rr_not rfl rfl) rfl rfl ?_ | refine qv rfl (rr_geq rfl rfl (qT (by omega))) rfl rfl ?_ | refine qv rfl (rr_geq rfl rfl (qF (by omega))) rfl rfl ?_ | refine qv rfl (rr_eql rfl rfl (qT (by omega))) rfl rfl ?_ | refine qv rfl (rr_eql rfl rfl (qF (by omega))) rfl rfl ?_ | refine qv rfl (rr_add64 rfl rfl (by omega) (by omega) rfl) rfl rfl ?_ | refine qv rfl (qfld FldC.fld rfl rfl) rfl rfl ?_ | refine qv rfl (rr_neq rfl rfl (qT (by omega))) rfl rfl ?_ | refine qv rfl (rr_neq rfl rfl (qF (by omega))) rfl rfl ?_))
    exact E_ret1e rfl rfl rfl
  · by_cases c1 : n = 0
    · subst c1
      repeat (first
        | refine qv rfl (qp rfl) rfl rfl ?_ | refine TL_nil ?_ | refine T_seq ?_ | refine T_region ?_ | refine qcT rfl ?_ | refine qcF rfl ?_ | refine T_skip ?_
        | refine T_ret ?_ | refine E_then ?_ | refine E_thenR ?_ | refine qs rfl rfl rfl rfl rfl rfl ?_
        | ((try refine qg rfl rfl rfl ?_); first | refine qv rfl (qp rfl) rfl rfl ?_ | refine qv rfl (rr_eql (b := true) rfl rfl (decide_eq_true rfl)) rfl rfl ?_ | refine qv rfl (qlen Und.eq rfl) rfl rfl ?_ | refine qv rfl (rr_not rfl rfl) rfl rfl ?_ | refine qv rfl (rr_geq rfl rfl (qT (by omega))) rfl rfl ?_ | refine qv rfl (rr_geq rfl rfl (qF (by omega))) rfl rfl ?_ | refine qv rfl (rr_eql rfl rfl (qT (by omega))) rfl rfl ?_ | refine qv rfl (rr_eql rfl rfl (qF (by omega))) rfl rfl ?_ | refine qv rfl (rr_add64 rfl rfl (by omega) (by omega) rfl) rfl rfl ?_ | refine qv rfl (qfld FldC.fld rfl rfl) rfl rfl ?_ | refine qv rfl (rr_neq rfl rfl (qT (by omega))) rfl rfl ?_ | refine qv rfl (rr_neq rfl rfl (qF (by omega))) rfl rfl ?_))
      exact E_ret1e rfl rfl rfl
    · repeat (first
        | refine qv rfl (qp rfl) rfl rfl ?_ | refine TL_nil ?_ | refine T_seq ?_ | refine T_region ?_ | refine qcT rfl ?_ | refine qcF rfl ?_ | refine T_skip ?_
        | refine T_ret ?_ | refine E_then ?_ | refine E_thenR ?_ | refine qs rfl rfl rfl rfl rfl rfl ?_
        | ((try refine qg rfl rfl rfl ?_); first | refine qv rfl (qp rfl) rfl rfl ?_ | refine qv rfl (rr_eql (b := false) rfl rfl (decide_eq_false (by omega))) rfl rfl ?_ | refine qv rfl (rr_slmax (j := n) (m := n) Und.eq TyC.ty rfl rfl rfl (Nat.le_refl _) (by omega)) rfl rfl ?_ | refine qv rfl (qlen Und.eq rfl) rfl rfl ?_ | refine qv rfl (rr_not rfl rfl) rfl rfl ?_ | refine qv rfl (rr_geq rfl rfl (qT (by omega))) rfl rfl ?_ | refine qv rfl (rr_geq rfl rfl (qF (by omega))) rfl rfl ?_ | refine qv rfl (rr_eql rfl rfl (qT (by omega))) rfl rfl ?_ | refine qv rfl (rr_eql rfl rfl (qF (by omega))) rfl rfl ?_ | refine qv rfl (rr_add64 rfl rfl (by omega) (by omega) rfl) rfl rfl ?_ | refine qv rfl (qfld FldC.fld rfl rfl) rfl rfl ?_ | refine qv rfl (rr_neq rfl rfl (qT (by omega))) rfl rfl ?_ | refine qv rfl (rr_neq rfl rfl (qF (by omega))) rfl rfl ?_))
      refine TL_call (he1 EntersC.en rfl rfl) (fun w hm => hma2 _ hm.below) rfl rfl rfl ?_
      rintro ⟨vr3, vt3⟩ _
      conv => arg 8; simp only [zA, zB, zC, zD, zE, zF, zG, zH, zI, rowS, ret, id_eq, dfaV]
      conv => arg 7; simp only [dfaV]
      refine TL_slv (i := 3) rfl fun _ d1 => TL_slv (i := 4) rfl fun _ d2 => ?_
      repeat (first
        | refine qv rfl (qp rfl) rfl rfl ?_ | refine TL_nil ?_ | refine T_seq ?_ | refine T_region ?_ | refine qcT rfl ?_ | refine qcF rfl ?_ | refine T_skip ?_
        | refine T_ret ?_ | refine E_then ?_ | refine E_thenR ?_ | refine qs rfl rfl rfl rfl rfl rfl ?_
        | ((try refine qg rfl rfl rfl ?_); first | refine qv rfl (qp rfl) rfl rfl ?_ | refine qv rfl (qlen Und.eq rfl) rfl rfl ?_ | refine qv rfl (rr_not rfl rfl) rfl rfl ?_ | refine qv rfl (rr_geq rfl rfl (qT (by omega))) rfl rfl ?_ | refine qv rfl (rr_geq rfl rfl (qF (by omega))) rfl rfl ?_ | refine qv rfl (rr_eql rfl rfl (qT (by omega))) rfl rfl ?_ | refine qv rfl (rr_eql rfl rfl (qF (by omega))) rfl rfl ?_ | refine qv rfl (rr_add64 rfl rfl (by omega) (by omega) rfl) rfl rfl ?_ | refine qv rfl (qfld FldC.fld rfl rfl) rfl rfl ?_ | refine qv rfl (rr_neq rfl rfl (qT (by omega))) rfl rfl ?_ | refine qv rfl (rr_neq rfl rfl (qF (by omega))) rfl rfl ?_))
      refine TL_new rfl fun g12 => ?_
      conv => arg 8; simp only [zA, zB, zC, zD, zE, zF, zG, zH, zI, rowS, ret, id_eq]
      refine TL_storeB (i := 5) (cs' := #[vr3, vt3]) rfl rfl rfl rfl (by simp only [List.all_cons, List.all_nil, d1, d2]; rfl) rfl ?_
      conv => arg 8; simp only [zA, zB, zC, zD, zE, zF, zG, zH, zI, rowS, ret, id_eq]
      clear hma2
      rcases hlaw2 with rfl | ⟨es2, hemb, _, _, _, rfl, hc2, hl2⟩
      · repeat (first
          | refine qv rfl (qp rfl) rfl rfl ?_ | refine TL_nil ?_ | refine T_seq ?_ | refine T_region ?_ | refine qcT rfl ?_ | refine qcF rfl ?_ | refine T_skip ?_
          | refine T_ret ?_ | refine E_then ?_ | refine E_thenR ?_ | refine qs rfl rfl rfl rfl rfl rfl ?_
          | ((try refine qg rfl rfl rfl ?_); first | refine qv rfl (qp rfl) rfl rfl ?_ | refine qv rfl (qlen Und.eq rfl) rfl rfl ?_ | refine qv rfl (rr_not rfl rfl) rfl rfl ?_ | refine qv rfl (rr_geq rfl rfl (qT (by omega))) rfl rfl ?_ | refine qv rfl (rr_geq rfl rfl (qF (by omega))) rfl rfl ?_ | refine qv rfl (rr_eql rfl rfl (qT (by omega))) rfl rfl ?_ | refine qv rfl (rr_eql rfl rfl (qF (by omega))) rfl rfl ?_ | refine qv rfl (rr_add64 rfl rfl (by omega) (by omega) rfl) rfl rfl ?_ | refine qv rfl (qfld FldC.fld rfl rfl) rfl rfl ?_ | refine qv rfl (rr_neq rfl rfl (qT (by omega))) rfl rfl ?_ | refine qv rfl (rr_neq rfl rfl (qF (by omega))) rfl rfl ?_))
        exact E_ret1e rfl rfl rfl
      · rw [← List.map_take] at hemb
        have hemb := embs_inj hemb
        subst hemb
        have hta := fun vr vt w' h => dfaTag_calls vr vt R T s w' h (by omega)
        have htb := fun vr vt w' h => dfaTag_calls vr vt R2 T2 s w' h (by omega)
        rw [hl1] at hta
        rw [hl2, least_take] at htb
        have hle := least_law es s
        have hlo : -1 ≤ leastL es s := by rcases hle with ⟨h, _⟩ | ⟨i, _, h, _⟩ <;> rw [h] <;> omega
        clear hle hl1 hl2
        generalize leastL es s = a at *
        repeat (first
          | refine qv rfl (qp rfl) rfl rfl ?_ | refine TL_nil ?_ | refine T_seq ?_ | refine T_region ?_ | refine qcT rfl ?_ | refine qcF rfl ?_ | refine T_skip ?_
          | refine T_ret ?_ | refine E_then ?_ | refine E_thenR ?_ | refine qs rfl rfl rfl rfl rfl rfl ?_
          | ((try refine qg rfl rfl rfl ?_); first | refine qv rfl (qp rfl) rfl rfl ?_ | refine qv rfl (rr_loadB (i := 2) TyC.ty rfl rfl rfl) rfl rfl ?_ | refine qv rfl (qlen Und.eq rfl) rfl rfl ?_ | refine qv rfl (rr_not rfl rfl) rfl rfl ?_ | refine qv rfl (rr_geq rfl rfl (qT (by omega))) rfl rfl ?_ | refine qv rfl (rr_geq rfl rfl (qF (by omega))) rfl rfl ?_ | refine qv rfl (rr_eql rfl rfl (qT (by omega))) rfl rfl ?_ | refine qv rfl (rr_eql rfl rfl (qF (by omega))) rfl rfl ?_ | refine qv rfl (rr_add64 rfl rfl (by omega) (by omega) rfl) rfl rfl ?_ | refine qv rfl (qfld FldC.fld rfl rfl) rfl rfl ?_ | refine qv rfl (rr_neq rfl rfl (qT (by omega))) rfl rfl ?_ | refine qv rfl (rr_neq rfl rfl (qF (by omega))) rfl rfl ?_))
        refine TL_call (he2 EntersC.en rfl rfl rfl) (fun w hm => hta _ _ w (hm.dfaM (i := 0) (j := 1) rfl (by rw [int_flat]; rfl) hc1)) rfl rfl rfl ?_
        intro _ _
        conv => arg 8; simp only [zA, zB, zC, zD, zE, zF, zG, zH, zI, rowS, ret, id_eq]
        repeat (first
          | refine qv rfl (qp rfl) rfl rfl ?_ | refine TL_nil ?_ | refine T_seq ?_ | refine T_region ?_ | refine qcT rfl ?_ | refine qcF rfl ?_ | refine T_skip ?_
          | refine T_ret ?_ | refine E_then ?_ | refine E_thenR ?_ | refine qs rfl rfl rfl rfl rfl rfl ?_
          | ((try refine qg rfl rfl rfl ?_); first | refine qv rfl (qp rfl) rfl rfl ?_ | refine qv rfl (rr_loadB (i := 5) TyC.ty rfl rfl rfl) rfl rfl ?_ | refine qv rfl (qlen Und.eq rfl) rfl rfl ?_ | refine qv rfl (rr_not rfl rfl) rfl rfl ?_ | refine qv rfl (rr_geq rfl rfl (qT (by omega))) rfl rfl ?_ | refine qv rfl (rr_geq rfl rfl (qF (by omega))) rfl rfl ?_ | refine qv rfl (rr_eql rfl rfl (qT (by omega))) rfl rfl ?_ | refine qv rfl (rr_eql rfl rfl (qF (by omega))) rfl rfl ?_ | refine qv rfl (rr_add64 rfl rfl (by omega) (by omega) rfl) rfl rfl ?_ | refine qv rfl (qfld FldC.fld rfl rfl) rfl rfl ?_ | refine qv rfl (rr_neq rfl rfl (qT (by omega))) rfl rfl ?_ | refine qv rfl (rr_neq rfl rfl (qF (by omega))) rfl rfl ?_))
        refine TL_call (he2 EntersC.en rfl rfl rfl) (fun w hm => htb _ _ w (hm.dfaM (i := 3) (j := 4) rfl (by rw [int_flat]; rfl) hc2)) rfl rfl rfl ?_
        intro _ _
        conv => arg 8; simp only [zA, zB, zC, zD, zE, zF, zG, zH, zI, rowS, ret, id_eq]
        by_cases c2 : a < (n : Int)
        · rw [if_pos c2]
          repeat (first
            | refine qv rfl (qp rfl) rfl rfl ?_ | refine TL_nil ?_ | refine T_seq ?_ | refine T_region ?_ | refine qcT rfl ?_ | refine qcF rfl ?_ | refine T_skip ?_
            | refine T_ret ?_ | refine E_then ?_ | refine E_thenR ?_ | refine qs rfl rfl rfl rfl rfl rfl ?_
            | ((try refine qg rfl rfl rfl ?_); first | refine qv rfl (qp rfl) rfl rfl ?_ | refine qv rfl (rr_geq (b := false) rfl rfl (decide_eq_false (by omega))) rfl rfl ?_ | refine qv rfl (rr_eql (b := true) rfl rfl (decide_eq_true rfl)) rfl rfl ?_ | refine qv rfl (qlen Und.eq rfl) rfl rfl ?_ | refine qv rfl (rr_not rfl rfl) rfl rfl ?_ | refine qv rfl (rr_geq rfl rfl (qT (by omega))) rfl rfl ?_ | refine qv rfl (rr_geq rfl rfl (qF (by omega))) rfl rfl ?_ | refine qv rfl (rr_eql rfl rfl (qT (by omega))) rfl rfl ?_ | refine qv rfl (rr_eql rfl rfl (qF (by omega))) rfl rfl ?_ | refine qv rfl (rr_add64 rfl rfl (by omega) (by omega) rfl) rfl rfl ?_ | refine qv rfl (qfld FldC.fld rfl rfl) rfl rfl ?_ | refine qv rfl (rr_neq rfl rfl (qT (by omega))) rfl rfl ?_ | refine qv rfl (rr_neq rfl rfl (qF (by omega))) rfl rfl ?_))
          exact E_ret1e rfl rfl rfl
        · rw [if_neg c2]
          repeat (first
            | refine qv rfl (qp rfl) rfl rfl ?_ | refine TL_nil ?_ | refine T_seq ?_ | refine T_region ?_ | refine qcT rfl ?_ | refine qcF rfl ?_ | refine T_skip ?_
            | refine T_ret ?_ | refine E_then ?_ | refine E_thenR ?_ | refine qs rfl rfl rfl rfl rfl rfl ?_
            | ((try refine qg rfl rfl rfl ?_); first | refine qv rfl (qp rfl) rfl rfl ?_ | refine qv rfl (rr_geq (b := true) rfl rfl (decide_eq_true (by omega))) rfl rfl ?_ | refine qv rfl (rr_eql (b := true) rfl rfl (decide_eq_true rfl)) rfl rfl ?_ | refine qv rfl (qlen Und.eq rfl) rfl rfl ?_ | refine qv rfl (rr_not rfl rfl) rfl rfl ?_ | refine qv rfl (rr_geq rfl rfl (qT (by omega))) rfl rfl ?_ | refine qv rfl (rr_geq rfl rfl (qF (by omega))) rfl rfl ?_ | refine qv rfl (rr_eql rfl rfl (qT (by omega))) rfl rfl ?_ | refine qv rfl (rr_eql rfl rfl (qF (by omega))) rfl rfl ?_ | refine qv rfl (rr_add64 rfl rfl (by omega) (by omega) rfl) rfl rfl ?_ | refine qv rfl (qfld FldC.fld rfl rfl) rfl rfl ?_ | refine qv rfl (rr_neq rfl rfl (qT (by omega))) rfl rfl ?_ | refine qv rfl (rr_neq rfl rfl (qF (by omega))) rfl rfl ?_))
          exact E_ret1e rfl rfl rfl
end Go.Proofs.Ytknojgjdaafboaa.dfaFew

