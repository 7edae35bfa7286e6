/- Part 3 of what DfaFew needs: PlN, PlS, PlA, PlC, PlD, ClsEq, RexC. -/
import Derived.Test.YtknojgjdaafboaaMgB
import Derived.WalkKit
import Derived.WalkSpells
import Derived.WalkLawsBesides
import Derived.Deep.RegionLaw
import Derived.Deep.AppendLies
import Derived.Deep.QuietTactic
import Derived.BigQuiet
import Derived.Deep.DeepCutAuto
import Derived.Lib.Hide
import Derived.Test.YtknojgjdaafboaaRows
import Derived.ProofKit
import Derived.OpenShut
import Derived.ShutString
import Derived.SizedLaws
import Derived.JoinedCond
import Derived.Deep.CondSized
import Derived.Deep.Quiet
import Derived.StillTail
import Derived.Deep.LoopGhost
import Derived.Laws.BitsLemmas
import Derived.Laws.BytesString
import Derived.Test.YtknojgjdaafboaaProg
import Derived.Laws.Entries
import Derived.Laws.BitsAllLaws
import Derived.Lib.TrailingZeros
import Derived.Laws.StructEq
import Derived.Laws.MakeOwn
import Derived.Laws.AppendOwn
import Derived.Maps.OwnSet
import Derived.DeepKeys4
import Derived.WideKeyEntry
import Derived.Laws.Bits64b
import Derived.Lib.SlicesCompact
import Derived.Shelf.Sort.Plain
import Derived.Ground.Names2Prog
import Derived.Shelf.Slices.CompactI
import Derived.Shelf.Slices.In.SortNone
import Derived.Lib.RowBridge
import Derived.ChangeKeysEq
/- PlN -/
namespace Go.Proofs.Ytknojgjdaafboaa.eng
open Go.RowKit kit mix classL rexL placesL
/-- blocks that are there already, and stay -/
def OldB (B : Base) (k : Nat) : Prop := k < B.w.heap.size ∧ ¬ B.X k
theorem at_oldB {B : Base} {L : List Own} {b off : Nat} {cs : List Value} (hb : OldB B b) (h : Rd B.w b off cs) (j : Nat) (v : Value) (hj : cs[j]? = some v) : At B L ⟨b, off + j, none⟩ v := fun w hm =>
  rd_stay h (hm.low.block b hb.1 hb.2) j v hj
theorem old_on {B : Base} {Lx : List Own} {w : World} (hm : Mem B Lx w) {k : Nat} (hk : OldB B k) : OldB (Base.on w Lx) k := by
  refine ⟨Nat.lt_of_lt_of_le hk.1 hm.low.size, ?_⟩
  rintro ⟨o, ho, hf⟩
  obtain ⟨i, hi⟩ := List.mem_iff_getElem?.1 ho
  rcases (hm.owns.all i o hi).2 k hf with h | h
  · have := hk.1; omega
  · exact hk.2 h
theorem rex_on {B : Base} {Lx : List Own} {w : World} {v : Value} {r : Rx} (hm : Mem B Lx w) (h : RexR (OldB B) B.w v r) : RexR (OldB (Base.on w Lx)) w v r :=
  (h.stay fun k hk => hm.low.block k hk.1 hk.2).mono fun _ hk => old_on hm hk
/-- what the maker has -/
structure MIx where
  vc : Value
  vr : Value
  vfol : Value
  vl : Value
  vs : List Value
  F : Nat → Prop
def mkL (g : Nat) (vf ve : Value) (rule : Int) (x : MIx) (p : PS) : List Own :=
  [blkO g (mkC x.vc x.vr vf x.vfol x.vl ve rule) 53, rowO 31 4 x.vc p.classes.length (p.classes.flatMap clsL), intR x.vr p.rules, folR x.vfol x.vs, folE x.F x.vs p.follow, rowO 4 1 x.vl p.last.length (p.last.map Value.bool)]
def nodeSp (g : Nat) (vf ve : Value) (rule : Int) (R : Shape × PS) : Spec (MIx × Value × Value) :=
  ⟨fun x => x.1.vs.length = R.2.follow.length, fun x => .agg #[.bool R.1.empty, x.2.1, x.2.2], fun x => mkL g vf ve rule x.1 R.2 ++ [intR x.2.1 R.1.first, intR x.2.2 R.1.last]⟩
theorem build_shp0 (w : World) : (Instr.build 55 (#[] : Array (Nat × Value))).run Try.prog w = .ok (.agg #[.bool false, .slice none 0 0, .slice none 0 0]) w := by
  go_simp
theorem build_shpT (w : World) : (Instr.build 55 #[(0, .bool true)]).run Try.prog w = .ok (.agg #[.bool true, .slice none 0 0, .slice none 0 0]) w := by
  go_simp
/-- what a node's kids are called with -/
def NodeAt (M : Nat) : Prop := ∀ (e : Re), e.size ≤ M → ∀ (g : Nat) (vf ve : Value) (rule : Int) (p : PS) (x : MIx) (v : Value) (w : World) (B : Base), PSOk p → x.vs.length = p.follow.length → p.classes.length + e.size ≤ 100000 → kit.okI64 rule → RexR (OldB B) B.w v (emb e) → Mem B (mkL g vf ve rule x p) w →
  Calls Try.prog 13 #[.pointer (some ⟨g, 0, none⟩), v] w (MeetsB (nodeSp g vf ve rule (nodeF rule e p)) B)
set_option maxHeartbeats 8000000 in
theorem node_none (g : Nat) (vf ve : Value) (rule : Int) (p : PS) (x : MIx) (v : Value) (w : World) (B : Base) (hx : x.vs.length = p.follow.length) (hv : RexR (OldB B) B.w v (emb .none)) (hm : Mem B (mkL g vf ve rule x p) w) :
    Calls Try.prog 13 #[.pointer (some ⟨g, 0, none⟩), v] w (MeetsB (nodeSp g vf ve rule (nodeF rule .none p)) B) := by
  obtain ⟨vk, rfl, _, hks⟩ := hv
  obtain ⟨bk, ck, rfl, -⟩ := hks
  unfold mkL at hm
  refine enterB hm (args := [.pointer (some ⟨g, 0, none⟩), rexV (emb .none).kind (emb .none).cls (.slice bk (emb .none).kids.length ck)]) (n := 176) Try.func13 rfl rfl rfl ?_
  clear hm
  refine T_seq (T_region (TL_box rfl rfl rfl fun g3 => TL_new rfl fun g4 => ?_))
  conv => arg 8; simp only [zA, zB, zC, zD, zE, zF, zG, zH, zI, rowS, ret, id_eq]
  repeat (first
    | refine qv rfl (qp rfl) rfl rfl ?_ | refine TL_nil ?_ | refine T_seq ?_ | refine T_region ?_ | refine qcT rfl ?_ | refine qcF rfl ?_ | refine T_skip ?_
    | refine T_ret ?_ | refine T_block ?_ | refine E_then ?_ | refine E_thenR ?_ | refine E_blockN ?_ | refine E_blockR ?_
    | refine qs rfl rfl rfl rfl rfl rfl ?_
    | ((try refine qg rfl rfl rfl ?_); first | refine qv rfl (qp rfl) rfl rfl ?_ | refine qv rfl (rr_load1 (v := .int .i64 1) TyC.ty rfl (at_blk (i := 6) rfl rfl)) rfl rfl ?_ | refine qv rfl (rr_build rfl build_shp0) rfl rfl ?_ | refine qv rfl (qlen Und.eq rfl) rfl rfl ?_ | refine qv rfl (qfld FldC.fld rfl rfl) rfl rfl ?_ | refine qv rfl (rr_nilc rfl) rfl rfl ?_ | refine qv rfl (rr_eql rfl rfl (qT (by omega))) rfl rfl ?_ | refine qv rfl (rr_eql rfl rfl (qF (by omega))) rfl rfl ?_))
  refine TL_storeB (i := 7) rfl rfl rfl rfl rfl rfl ?_
  conv => arg 8; simp only [zA, zB, zC, zD, zE, zF, zG, zH, zI, rowS, ret, id_eq]
  repeat (first
    | refine qv rfl (qp rfl) rfl rfl ?_ | refine TL_nil ?_ | refine T_seq ?_ | refine T_region ?_ | refine qcT rfl ?_ | refine qcF rfl ?_ | refine T_skip ?_
    | refine T_ret ?_ | refine T_block ?_ | refine E_then ?_ | refine E_thenR ?_ | refine E_blockN ?_ | refine E_blockR ?_
    | refine qs rfl rfl rfl rfl rfl rfl ?_
    | ((try refine qg rfl rfl rfl ?_); first | refine qv rfl (qp rfl) rfl rfl ?_ | refine qv rfl (qlen Und.eq rfl) rfl rfl ?_ | refine qv rfl (qfld FldC.fld rfl rfl) rfl rfl ?_ | refine qv rfl (rr_nilc rfl) rfl rfl ?_ | refine qv rfl (rr_eql rfl rfl (qT (by omega))) rfl rfl ?_ | refine qv rfl (rr_eql rfl rfl (qF (by omega))) rfl rfl ?_))
  refine E_nilrow 3 1 (E_nilrow 3 1 ?_)
  exact E_retc1 (i := 7) rfl rfl rfl rfl fun w hm => hm.meetsB (S := nodeSp g vf ve rule (nodeF rule .none p)) (x, .slice none 0 0, .slice none 0 0) hx [0, 1, 2, 3, 4, 5, 8, 9] (by decide) rfl
set_option maxHeartbeats 8000000 in
theorem node_empty (g : Nat) (vf ve : Value) (rule : Int) (p : PS) (x : MIx) (v : Value) (w : World) (B : Base) (hx : x.vs.length = p.follow.length) (hv : RexR (OldB B) B.w v (emb .empty)) (hm : Mem B (mkL g vf ve rule x p) w) :
    Calls Try.prog 13 #[.pointer (some ⟨g, 0, none⟩), v] w (MeetsB (nodeSp g vf ve rule (nodeF rule .empty p)) B) := by
  obtain ⟨vk, rfl, _, hks⟩ := hv
  obtain ⟨bk, ck, rfl, -⟩ := hks
  unfold mkL at hm
  refine enterB hm (args := [.pointer (some ⟨g, 0, none⟩), rexV (emb .empty).kind (emb .empty).cls (.slice bk (emb .empty).kids.length ck)]) (n := 176) Try.func13 rfl rfl rfl ?_
  clear hm
  refine T_seq (T_region (TL_box rfl rfl rfl fun g3 => TL_new rfl fun g4 => ?_))
  conv => arg 8; simp only [zA, zB, zC, zD, zE, zF, zG, zH, zI, rowS, ret, id_eq]
  repeat (first
    | refine qv rfl (qp rfl) rfl rfl ?_ | refine TL_nil ?_ | refine T_seq ?_ | refine T_region ?_ | refine qcT rfl ?_ | refine qcF rfl ?_ | refine T_skip ?_
    | refine T_ret ?_ | refine T_block ?_ | refine E_then ?_ | refine E_thenR ?_ | refine E_blockN ?_ | refine E_blockR ?_
    | refine qs rfl rfl rfl rfl rfl rfl ?_
    | ((try refine qg rfl rfl rfl ?_); first | refine qv rfl (qp rfl) rfl rfl ?_ | refine qv rfl (rr_load1 (v := .int .i64 2) TyC.ty rfl (at_blk (i := 6) rfl rfl)) rfl rfl ?_ | refine qv rfl (rr_build rfl build_shpT) rfl rfl ?_ | refine qv rfl (qlen Und.eq rfl) rfl rfl ?_ | refine qv rfl (qfld FldC.fld rfl rfl) rfl rfl ?_ | refine qv rfl (rr_nilc rfl) rfl rfl ?_ | refine qv rfl (rr_eql rfl rfl (qT (by omega))) rfl rfl ?_ | refine qv rfl (rr_eql rfl rfl (qF (by omega))) rfl rfl ?_))
  refine TL_storeB (i := 7) rfl rfl rfl rfl rfl rfl ?_
  conv => arg 8; simp only [zA, zB, zC, zD, zE, zF, zG, zH, zI, rowS, ret, id_eq]
  repeat (first
    | refine qv rfl (qp rfl) rfl rfl ?_ | refine TL_nil ?_ | refine T_seq ?_ | refine T_region ?_ | refine qcT rfl ?_ | refine qcF rfl ?_ | refine T_skip ?_
    | refine T_ret ?_ | refine T_block ?_ | refine E_then ?_ | refine E_thenR ?_ | refine E_blockN ?_ | refine E_blockR ?_
    | refine qs rfl rfl rfl rfl rfl rfl ?_
    | ((try refine qg rfl rfl rfl ?_); first | refine qv rfl (qp rfl) rfl rfl ?_ | refine qv rfl (qlen Und.eq rfl) rfl rfl ?_ | refine qv rfl (qfld FldC.fld rfl rfl) rfl rfl ?_ | refine qv rfl (rr_nilc rfl) rfl rfl ?_ | refine qv rfl (rr_eql rfl rfl (qT (by omega))) rfl rfl ?_ | refine qv rfl (rr_eql rfl rfl (qF (by omega))) rfl rfl ?_))
  refine E_nilrow 3 1 (E_nilrow 3 1 ?_)
  exact E_retc1 (i := 7) rfl rfl rfl rfl fun w hm => hm.meetsB (S := nodeSp g vf ve rule (nodeF rule .empty p)) (x, .slice none 0 0, .slice none 0 0) hx [0, 1, 2, 3, 4, 5, 8, 9] (by decide) rfl
/-- the maker's rule, which nodes leave alone -/
def ruleO (g : Nat) (rule : Int) : Own :=
  ⟨some g, fun _ => False, fun w => ∃ vc vr vf vfol vl ve, w.heap[g]? = some (.cells (mkC vc vr vf vfol vl ve rule) 53 (0, 0)), fun w ⟨_, _, _, _, _, _, h⟩ k hk => by simp only [Option.some.injEq, or_false] at hk; subst hk; exact (Array.getElem?_eq_some_iff.1 h).1,
    fun w w' ⟨vc, vr, vf, vfol, vl, ve, h⟩ _ hb => ⟨vc, vr, vf, vfol, vl, ve, by rw [hb g (.inl rfl)]; exact h⟩⟩
theorem sub_rule {B : Base} {L : List Own} {g : Nat} {vc vr vf vfol vl ve : Value} {rule : Int} (h : L[0]? = some (blkO g (mkC vc vr vf vfol vl ve rule) 53)) : ∀ w, Mem B L w → Mem B [ruleO g rule] w := fun w hm => by
  have h1 := hm.pick (L' := [blkO g (mkC vc vr vf vfol vl ve rule) 53]) [0] (by decide) (by simp [h])
  exact h1.reownAt (i := 0) (ruleO g rule) rfl ⟨vc, vr, vf, vfol, vl, ve, h1.get (i := 0) rfl⟩ fun k hk => hk
theorem at_rule {B : Base} {L : List Own} {g i : Nat} {rule : Int} (h : L[i]? = some (ruleO g rule)) : At B L ⟨g, 6, none⟩ (.int .i64 rule) := fun w hm => by
  obtain ⟨vc, vr, vf, vfol, vl, ve, h⟩ := (hm.get h : (ruleO g rule).holds w)
  rw [cell_of_row w g 6 _ _ _ h]; rfl
theorem cls_one (c : C4) (u : Value) (h : u ∈ clsL c) : u.oneCell' = true := by
  simp only [clsL, List.mem_cons, List.not_mem_nil, or_false] at h
  rcases h with rfl | rfl | rfl | rfl <;> rfl
theorem rexcls_at (c : C4) {k : Int} {vk v : Value} {j : Nat} (hj : (clsL c)[j]? = some v) : ((rexC k c vk).toArray)[1 + j]? = some v := by
  match j, hj with
  | 0, hj => exact hj
  | 1, hj => exact hj
  | 2, hj => exact hj
  | 3, hj => exact hj
theorem build_shp2 (b b' : Option Addr) (m m' k k' : Nat) (w : World) : (Instr.build 55 #[(1, .slice b m k), (2, .slice b' m' k')]).run Try.prog w = .ok (.agg #[.bool false, .slice b m k, .slice b' m' k']) w := by
  go_simp
theorem intR_snoc (v : Value) (l : List Int) (x : Int) : rowO 3 1 v (l.length + 1) (l.map (Value.int .i64) ++ [.int .i64 x]) = intR v (l ++ [x]) := by
  show _ = rowO 3 1 v (l ++ [x]).length ((l ++ [x]).map (Value.int .i64))
  rw [List.length_append, List.map_append]; rfl
theorem fol_snoc (v : Value) (l : List Value) (x : Value) : rowO 24 1 v (l.length + 1) (l.flatMap one1 ++ [x]) = folR v (l ++ [x]) := by
  show _ = rowO 24 1 v (l ++ [x]).length ((l ++ [x]).flatMap one1)
  rw [List.length_append, List.flatMap_append]; rfl
theorem bool_snoc (v : Value) (l : List Bool) (x : Bool) : rowO 4 1 v (l.length + 1) (l.map Value.bool ++ [.bool x]) = rowO 4 1 v (l ++ [x]).length ((l ++ [x]).map Value.bool) := by
  rw [List.length_append, List.map_append]; rfl
theorem one_row {w : World} {g : Nat} {n : Int} (h : (blkO g #[.int .i64 n] 3).holds w) : (intR (.slice (some ⟨g, 0, none⟩) 1 1) [n]).holds w :=
  ⟨rfl, .inr ⟨g, 1, _, rfl, Nat.zero_le _, h, Nat.le_refl _, by decide, rfl, rfl⟩⟩
set_option maxHeartbeats 16000000 in
theorem node_byte (c : C4) (g : Nat) (vf ve : Value) (rule : Int) (p : PS) (x : MIx) (v : Value) (w : World) (B : Base) (hp : PSOk p) (hx : x.vs.length = p.follow.length) (hn : p.classes.length ≤ 100000) (hv : RexR (OldB B) B.w v (emb (.byte c))) (hm : Mem B (mkL g vf ve rule x p) w) :
    Calls Try.prog 13 #[.pointer (some ⟨g, 0, none⟩), v] w (MeetsB (nodeSp g vf ve rule (nodeF rule (.byte c) p)) B) := by
  obtain ⟨vk, rfl, _, hks⟩ := hv
  obtain ⟨bk, ck, rfl, -⟩ := hks
  obtain ⟨vc, vr, vfol, vl, vs, F⟩ := x
  unfold mkL at hm
  dsimp only at hx hm
  refine enterB hm (args := [.pointer (some ⟨g, 0, none⟩), rexV (emb (.byte c)).kind (emb (.byte c)).cls (.slice bk (emb (.byte c)).kids.length ck)]) (n := 176) Try.func13 rfl rfl rfl ?_
  clear hm
  refine T_seq (T_region (TL_box rfl rfl rfl fun g3 => TL_new rfl fun g4 => ?_))
  conv => arg 8; simp only [zA, zB, zC, zD, zE, zF, zG, zH, zI, rowS, ret, id_eq]
  refine TL_rowv (i := 1) rfl fun bc cc hvc hc1 hc2 => ?_
  subst hvc
  repeat (first
    | refine qv rfl (qp rfl) rfl rfl ?_ | refine TL_nil ?_ | refine T_seq ?_ | refine T_region ?_ | refine qcT rfl ?_ | refine qcF rfl ?_ | refine T_skip ?_
    | refine T_ret ?_ | refine T_block ?_ | refine E_then ?_ | refine E_thenR ?_ | refine E_blockN ?_ | refine E_blockR ?_
    | refine qs rfl rfl rfl rfl rfl rfl ?_
    | ((try refine qg rfl rfl rfl ?_); first | refine qv rfl (qp rfl) rfl rfl ?_ | refine qv rfl (rr_load1 (v := .int .i64 3) TyC.ty rfl (at_blk (i := 6) rfl rfl)) rfl rfl ?_ | refine qv rfl (rr_nilc rfl) rfl rfl ?_ | refine qv rfl (rr_load1 (v := .slice bc p.classes.length cc) TyC.ty rfl (at_blk (i := 0) rfl rfl)) rfl rfl ?_ | refine qv rfl (qlen Und.eq rfl) rfl rfl ?_ | refine qv rfl (qfld FldC.fld rfl rfl) rfl rfl ?_ | refine qv rfl (rr_nilc rfl) rfl rfl ?_ | refine qv rfl (rr_eql rfl rfl (qT (by omega))) rfl rfl ?_ | refine qv rfl (rr_eql rfl rfl (qF (by omega))) rfl rfl ?_))
  (repeat refine T_seq ?_)
  refine T_midq (ι := Value) (fun _ => True) (fun _ => [(0, .pointer (some ⟨g, 0, none⟩)), (3, .pointer (some ⟨g3, 0, none⟩)), (4, .pointer (some ⟨g4, 0, none⟩)), (5, .int .i64 p.classes.length)])
    (fun vc' => [blkO g (mkC vc' vr vf vfol vl ve rule) 53, rowO 31 4 vc' (p.classes ++ [c]).length ((p.classes ++ [c]).flatMap clsL), intR vr p.rules, folR vfol vs, folE F vs p.follow, rowO 4 1 vl p.last.length (p.last.map Value.bool), blkO g4 #[.bool false, .slice none 0 0, .slice none 0 0] 55]) ?_ ?_
  · refine T_ord ([blkO g3 (rexC 3 c (.slice bk 0 ck)).toArray 33]) (.calm 0 (.calm 1 (.calm 2 (.calm 3 (.calm 4 (.calm 6 (.calm 7 (.two 5 (.one 8 (.one 9 (.calm 10 (.calm 11 (.calm 12 (.one 13 (.done))))))) 8 (.one 5 (.one 9 (.calm 10 (.calm 11 (.calm 12 (.one 13 (.done))))))))))))))) (sub_pick [6] (by decide) rfl) (by kernel_rfl) (by kernel_rfl) (by intro c a d v w h; cases d <;> exact h) ?_
    repeat (first
      | ((first | refine TW_plain rfl rfl ?_ | refine TW_gmet rfl rfl rfl rfl ?_); first | refine TN_val (qp rfl) rfl rfl ?_ | refine TN_val (rr_nilc rfl) rfl rfl ?_ | refine TN_val (rr_loadN (cs := clsL c) TyC.ty rfl rfl (fun j v hj => at_blk (i := 0) rfl (rexcls_at c hj))) rfl rfl ?_ | refine TN_val (qlen Und.eq rfl) rfl rfl ?_ | refine TN_val (qfld FldC.fld rfl rfl) rfl rfl ?_ | refine TN_val (rr_nilc rfl) rfl rfl ?_ | refine TN_val (rr_eql rfl rfl (qT (by omega))) rfl rfl ?_ | refine TN_val (rr_eql rfl rfl (qF (by omega))) rfl rfl ?_)
      | refine TW_skip rfl rfl rfl rfl rfl rfl rfl ?_ | refine TW_done ?_)
    refine TW_two rfl rfl ?_ ?_
    · refine TL_val (rr_load1 (v := .slice bc p.classes.length cc) TyC.ty rfl (at_blk (i := 0) rfl rfl)) rfl rfl rfl (TW_on (sub_pick [6] (by decide) rfl) ?_)
      refine TW_one rfl (TL_litN (cs := (clsL c).toArray) [clsV c] rfl rfl rfl (by intro v hv; simp at hv; subst hv; rfl) rfl rfl rfl fun g33 => (TW_on (sub_pick [6] (by decide) rfl) ?_))
      refine TW_one rfl (TL_appSl (i := 1) (e := 31) (size := 4) (bytes := 32) (m := p.classes.length) (xs := p.classes.flatMap clsL) (k := 1) (ys := clsL c) rfl (sl_blk (i := 8) rfl (fun j u h => by simpa using h) (Nat.le_refl 1) (by decide)) rfl rfl rfl (fun u hu => cls_one c u hu) (by omega) (by omega) rfl fun vc' => (TW_on (sub_pick [6] (by decide) rfl) ?_))
      repeat (first
        | ((first | refine TW_plain rfl rfl ?_ | refine TW_gmet rfl rfl rfl rfl ?_); first | refine TN_val (qp rfl) rfl rfl ?_ | refine TN_val (rr_nilc rfl) rfl rfl ?_ | refine TN_val (qlen Und.eq rfl) rfl rfl ?_ | refine TN_val (qfld FldC.fld rfl rfl) rfl rfl ?_ | refine TN_val (rr_nilc rfl) rfl rfl ?_ | refine TN_val (rr_eql rfl rfl (qT (by omega))) rfl rfl ?_ | refine TN_val (rr_eql rfl rfl (qF (by omega))) rfl rfl ?_)
        | refine TW_skip rfl rfl rfl rfl rfl rfl rfl ?_ | refine TW_done ?_)
      refine TW_one rfl (TL_slv (i := 1) rfl fun hv1 hv2 => TL_store1 (i := 0) rfl rfl rfl hv1 hv2 rfl (TW_on (sub_pick [6] (by decide) rfl) ?_))
      repeat (first
        | ((first | refine TW_plain rfl rfl ?_ | refine TW_gmet rfl rfl rfl rfl ?_); first | refine TN_val (qp rfl) rfl rfl ?_ | refine TN_val (qlen Und.eq rfl) rfl rfl ?_ | refine TN_val (qfld FldC.fld rfl rfl) rfl rfl ?_ | refine TN_val (rr_nilc rfl) rfl rfl ?_ | refine TN_val (rr_eql rfl rfl (qT (by omega))) rfl rfl ?_ | refine TN_val (rr_eql rfl rfl (qF (by omega))) rfl rfl ?_)
        | refine TW_skip rfl rfl rfl rfl rfl rfl rfl ?_ | refine TW_done ?_)
      refine E_pick [0, 1, 2, 3, 4, 5, 7] (by decide) rfl ?_
      exact E_mid vc' trivial (by repeat' (first | exact True.intro | refine And.intro rfl ?_)) (by rw [List.length_append, List.flatMap_append]; rfl)
    · refine TL_litN (cs := (clsL c).toArray) [clsV c] rfl rfl rfl (by intro v hv; simp at hv; subst hv; rfl) rfl rfl rfl fun g33 => (TW_on (sub_pick [6] (by decide) rfl) ?_)
      refine TW_one rfl (TL_val (rr_load1 (v := .slice bc p.classes.length cc) TyC.ty rfl (at_blk (i := 0) rfl rfl)) rfl rfl rfl (TW_on (sub_pick [6] (by decide) rfl) ?_))
      refine TW_one rfl (TL_appSl (i := 1) (e := 31) (size := 4) (bytes := 32) (m := p.classes.length) (xs := p.classes.flatMap clsL) (k := 1) (ys := clsL c) rfl (sl_blk (i := 8) rfl (fun j u h => by simpa using h) (Nat.le_refl 1) (by decide)) rfl rfl rfl (fun u hu => cls_one c u hu) (by omega) (by omega) rfl fun vc' => (TW_on (sub_pick [6] (by decide) rfl) ?_))
      repeat (first
        | ((first | refine TW_plain rfl rfl ?_ | refine TW_gmet rfl rfl rfl rfl ?_); first | refine TN_val (qp rfl) rfl rfl ?_ | refine TN_val (rr_nilc rfl) rfl rfl ?_ | refine TN_val (qlen Und.eq rfl) rfl rfl ?_ | refine TN_val (qfld FldC.fld rfl rfl) rfl rfl ?_ | refine TN_val (rr_nilc rfl) rfl rfl ?_ | refine TN_val (rr_eql rfl rfl (qT (by omega))) rfl rfl ?_ | refine TN_val (rr_eql rfl rfl (qF (by omega))) rfl rfl ?_)
        | refine TW_skip rfl rfl rfl rfl rfl rfl rfl ?_ | refine TW_done ?_)
      refine TW_one rfl (TL_slv (i := 1) rfl fun hv1 hv2 => TL_store1 (i := 0) rfl rfl rfl hv1 hv2 rfl (TW_on (sub_pick [6] (by decide) rfl) ?_))
      repeat (first
        | ((first | refine TW_plain rfl rfl ?_ | refine TW_gmet rfl rfl rfl rfl ?_); first | refine TN_val (qp rfl) rfl rfl ?_ | refine TN_val (qlen Und.eq rfl) rfl rfl ?_ | refine TN_val (qfld FldC.fld rfl rfl) rfl rfl ?_ | refine TN_val (rr_nilc rfl) rfl rfl ?_ | refine TN_val (rr_eql rfl rfl (qT (by omega))) rfl rfl ?_ | refine TN_val (rr_eql rfl rfl (qF (by omega))) rfl rfl ?_)
        | refine TW_skip rfl rfl rfl rfl rfl rfl rfl ?_ | refine TW_done ?_)
      refine E_pick [0, 1, 2, 3, 4, 5, 7] (by decide) rfl ?_
      exact E_mid vc' trivial (by repeat' (first | exact True.intro | refine And.intro rfl ?_)) (by rw [List.length_append, List.flatMap_append]; rfl)
  clear hc1 hc2
  intro vc' _
  repeat (first
    | refine qv rfl (qp rfl) rfl rfl ?_ | refine TL_nil ?_ | refine T_seq ?_ | refine T_region ?_ | refine qcT rfl ?_ | refine qcF rfl ?_ | refine T_skip ?_
    | refine T_ret ?_ | refine T_block ?_ | refine E_then ?_ | refine E_thenR ?_ | refine E_blockN ?_ | refine E_blockR ?_
    | refine qs rfl rfl rfl rfl rfl rfl ?_
    | ((try refine qg rfl rfl rfl ?_); first | refine qv rfl (qp rfl) rfl rfl ?_ | refine qv rfl (qlen Und.eq rfl) rfl rfl ?_ | refine qv rfl (qfld FldC.fld rfl rfl) rfl rfl ?_ | refine qv rfl (rr_nilc rfl) rfl rfl ?_ | refine qv rfl (rr_eql rfl rfl (qT (by omega))) rfl rfl ?_ | refine qv rfl (rr_eql rfl rfl (qF (by omega))) rfl rfl ?_))
  (repeat refine T_seq ?_)
  have hrl := hp.rules
  refine T_midq (ι := Value) (fun _ => True) (fun _ => [(0, .pointer (some ⟨g, 0, none⟩)), (4, .pointer (some ⟨g4, 0, none⟩)), (5, .int .i64 p.classes.length)])
    (fun vr' => [blkO g (mkC vc' vr' vf vfol vl ve rule) 53, rowO 31 4 vc' (p.classes ++ [c]).length ((p.classes ++ [c]).flatMap clsL), intR vr' (p.rules ++ [rule]), folR vfol vs, folE F vs p.follow, rowO 4 1 vl p.last.length (p.last.map Value.bool), blkO g4 #[.bool false, .slice none 0 0, .slice none 0 0] 55]) ?_ ?_
  · refine T_ord ([ruleO g rule]) (.calm 0 (.calm 1 (.calm 2 (.calm 3 (.calm 4 (.calm 6 (.calm 7 (.calm 8 (.calm 9 (.two 5 (.one 10 (.one 11 (.calm 12 (.calm 13 (.calm 14 (.one 15 (.done))))))) 10 (.one 5 (.one 11 (.calm 12 (.calm 13 (.calm 14 (.one 15 (.done))))))))))))))))) (sub_rule rfl) (by kernel_rfl) (by kernel_rfl) (by intro c a d v w h; cases d <;> exact h) ?_
    repeat (first
      | ((first | refine TW_plain rfl rfl ?_ | refine TW_gmet rfl rfl rfl rfl ?_); first | refine TN_val (qp rfl) rfl rfl ?_ | refine TN_val (rr_nilc rfl) rfl rfl ?_ | refine TN_val (rr_load1 (v := .int .i64 rule) TyC.ty rfl (at_rule (i := 0) rfl)) rfl rfl ?_ | refine TN_val (qlen Und.eq rfl) rfl rfl ?_ | refine TN_val (qfld FldC.fld rfl rfl) rfl rfl ?_ | refine TN_val (rr_nilc rfl) rfl rfl ?_ | refine TN_val (rr_eql rfl rfl (qT (by omega))) rfl rfl ?_ | refine TN_val (rr_eql rfl rfl (qF (by omega))) rfl rfl ?_)
      | refine TW_skip rfl rfl rfl rfl rfl rfl rfl ?_ | refine TW_done ?_)
    refine TW_two rfl rfl ?_ ?_
    · refine TL_val (rr_load1 (v := vr) TyC.ty rfl (at_blk (i := 0) rfl rfl)) rfl rfl rfl (TW_on (sub_rule rfl) ?_)
      refine TW_one rfl (TL_litN (cs := #[.int .i64 rule]) [.int .i64 rule] rfl rfl rfl (by intro v hv; simp at hv; subst hv; rfl) rfl rfl rfl fun g48 => (TW_on (sub_rule rfl) ?_))
      refine TW_one rfl (TL_appSl (i := 2) (e := 3) (size := 1) (bytes := 8) (m := p.rules.length) (xs := p.rules.map (Value.int .i64)) (k := 1) (ys := [.int .i64 rule]) rfl (sl_blk (i := 7) rfl (fun j u h => by simpa using h) (Nat.le_refl 1) (by decide)) rfl rfl rfl (fun u hu => by rw [List.mem_singleton.1 hu]; rfl) (by omega) (by omega) rfl fun vr' => (TW_on (sub_rule rfl) ?_))
      repeat (first
        | ((first | refine TW_plain rfl rfl ?_ | refine TW_gmet rfl rfl rfl rfl ?_); first | refine TN_val (qp rfl) rfl rfl ?_ | refine TN_val (rr_nilc rfl) rfl rfl ?_ | refine TN_val (qlen Und.eq rfl) rfl rfl ?_ | refine TN_val (qfld FldC.fld rfl rfl) rfl rfl ?_ | refine TN_val (rr_nilc rfl) rfl rfl ?_ | refine TN_val (rr_eql rfl rfl (qT (by omega))) rfl rfl ?_ | refine TN_val (rr_eql rfl rfl (qF (by omega))) rfl rfl ?_)
        | refine TW_skip rfl rfl rfl rfl rfl rfl rfl ?_ | refine TW_done ?_)
      refine TW_one rfl (TL_slv (i := 2) rfl fun hv1 hv2 => TL_store1 (i := 0) rfl rfl rfl hv1 hv2 rfl (TW_on (sub_rule (vc := vc') (vr := vr') (vf := vf) (vfol := vfol) (vl := vl) (ve := ve) rfl) ?_))
      repeat (first
        | ((first | refine TW_plain rfl rfl ?_ | refine TW_gmet rfl rfl rfl rfl ?_); first | refine TN_val (qp rfl) rfl rfl ?_ | refine TN_val (qlen Und.eq rfl) rfl rfl ?_ | refine TN_val (qfld FldC.fld rfl rfl) rfl rfl ?_ | refine TN_val (rr_nilc rfl) rfl rfl ?_ | refine TN_val (rr_eql rfl rfl (qT (by omega))) rfl rfl ?_ | refine TN_val (rr_eql rfl rfl (qF (by omega))) rfl rfl ?_)
        | refine TW_skip rfl rfl rfl rfl rfl rfl rfl ?_ | refine TW_done ?_)
      refine E_pick [0, 1, 2, 3, 4, 5, 6] (by decide) rfl ?_
      exact E_mid vr' trivial (by repeat' (first | exact True.intro | refine And.intro rfl ?_)) (by rw [← intR_snoc vr' p.rules rule]; rfl)
    · refine TL_litN (cs := #[.int .i64 rule]) [.int .i64 rule] rfl rfl rfl (by intro v hv; simp at hv; subst hv; rfl) rfl rfl rfl fun g48 => (TW_on (sub_rule rfl) ?_)
      refine TW_one rfl (TL_val (rr_load1 (v := vr) TyC.ty rfl (at_blk (i := 0) rfl rfl)) rfl rfl rfl (TW_on (sub_rule rfl) ?_))
      refine TW_one rfl (TL_appSl (i := 2) (e := 3) (size := 1) (bytes := 8) (m := p.rules.length) (xs := p.rules.map (Value.int .i64)) (k := 1) (ys := [.int .i64 rule]) rfl (sl_blk (i := 7) rfl (fun j u h => by simpa using h) (Nat.le_refl 1) (by decide)) rfl rfl rfl (fun u hu => by rw [List.mem_singleton.1 hu]; rfl) (by omega) (by omega) rfl fun vr' => (TW_on (sub_rule rfl) ?_))
      repeat (first
        | ((first | refine TW_plain rfl rfl ?_ | refine TW_gmet rfl rfl rfl rfl ?_); first | refine TN_val (qp rfl) rfl rfl ?_ | refine TN_val (rr_nilc rfl) rfl rfl ?_ | refine TN_val (qlen Und.eq rfl) rfl rfl ?_ | refine TN_val (qfld FldC.fld rfl rfl) rfl rfl ?_ | refine TN_val (rr_nilc rfl) rfl rfl ?_ | refine TN_val (rr_eql rfl rfl (qT (by omega))) rfl rfl ?_ | refine TN_val (rr_eql rfl rfl (qF (by omega))) rfl rfl ?_)
        | refine TW_skip rfl rfl rfl rfl rfl rfl rfl ?_ | refine TW_done ?_)
      refine TW_one rfl (TL_slv (i := 2) rfl fun hv1 hv2 => TL_store1 (i := 0) rfl rfl rfl hv1 hv2 rfl (TW_on (sub_rule (vc := vc') (vr := vr') (vf := vf) (vfol := vfol) (vl := vl) (ve := ve) rfl) ?_))
      repeat (first
        | ((first | refine TW_plain rfl rfl ?_ | refine TW_gmet rfl rfl rfl rfl ?_); first | refine TN_val (qp rfl) rfl rfl ?_ | refine TN_val (qlen Und.eq rfl) rfl rfl ?_ | refine TN_val (qfld FldC.fld rfl rfl) rfl rfl ?_ | refine TN_val (rr_nilc rfl) rfl rfl ?_ | refine TN_val (rr_eql rfl rfl (qT (by omega))) rfl rfl ?_ | refine TN_val (rr_eql rfl rfl (qF (by omega))) rfl rfl ?_)
        | refine TW_skip rfl rfl rfl rfl rfl rfl rfl ?_ | refine TW_done ?_)
      refine E_pick [0, 1, 2, 3, 4, 5, 6] (by decide) rfl ?_
      exact E_mid vr' trivial (by repeat' (first | exact True.intro | refine And.intro rfl ?_)) (by rw [← intR_snoc vr' p.rules rule]; rfl)
  intro vr' _
  have hfl := hp.follow
  have hll := hp.last
  repeat (first
    | refine qv rfl (qp rfl) rfl rfl ?_ | refine TL_nil ?_ | refine T_seq ?_ | refine T_region ?_ | refine qcT rfl ?_ | refine qcF rfl ?_ | refine T_skip ?_
    | refine T_ret ?_ | refine T_block ?_ | refine E_then ?_ | refine E_thenR ?_ | refine E_blockN ?_ | refine E_blockR ?_
    | refine qs rfl rfl rfl rfl rfl rfl ?_
    | ((try refine qg rfl rfl rfl ?_); first | refine qv rfl (qp rfl) rfl rfl ?_ | refine qv rfl (rr_nilc rfl) rfl rfl ?_ | refine qv rfl (rr_load1 (v := vfol) TyC.ty rfl (at_blk (i := 0) rfl rfl)) rfl rfl ?_ | refine qv rfl (qlen Und.eq rfl) rfl rfl ?_ | refine qv rfl (qfld FldC.fld rfl rfl) rfl rfl ?_ | refine qv rfl (rr_nilc rfl) rfl rfl ?_ | refine qv rfl (rr_eql rfl rfl (qT (by omega))) rfl rfl ?_ | refine qv rfl (rr_eql rfl rfl (qF (by omega))) rfl rfl ?_))
  refine TL_push1 (i := 3) (bytes := 24) rfl rfl rfl rfl rfl rfl (fun z h => by cases h; rfl) (by omega) (by omega) rfl fun z1 vfol' => ?_
  conv => arg 8; simp only [zA, zB, zC, zD, zE, zF, zG, zH, zI, rowS, ret, id_eq]
  repeat (first
    | refine qv rfl (qp rfl) rfl rfl ?_ | refine TL_nil ?_ | refine T_seq ?_ | refine T_region ?_ | refine qcT rfl ?_ | refine qcF rfl ?_ | refine T_skip ?_
    | refine T_ret ?_ | refine T_block ?_ | refine E_then ?_ | refine E_thenR ?_ | refine E_blockN ?_ | refine E_blockR ?_
    | refine qs rfl rfl rfl rfl rfl rfl ?_
    | ((try refine qg rfl rfl rfl ?_); first | refine qv rfl (qp rfl) rfl rfl ?_ | refine qv rfl (rr_nilc rfl) rfl rfl ?_ | refine qv rfl (qlen Und.eq rfl) rfl rfl ?_ | refine qv rfl (qfld FldC.fld rfl rfl) rfl rfl ?_ | refine qv rfl (rr_nilc rfl) rfl rfl ?_ | refine qv rfl (rr_eql rfl rfl (qT (by omega))) rfl rfl ?_ | refine qv rfl (rr_eql rfl rfl (qF (by omega))) rfl rfl ?_))
  refine TL_slv (i := 3) rfl fun hv1 hv2 => TL_store1 (i := 0) rfl rfl rfl hv1 hv2 rfl ?_
  conv => arg 8; simp only [zA, zB, zC, zD, zE, zF, zG, zH, zI, rowS, ret, id_eq]
  repeat (first
    | refine qv rfl (qp rfl) rfl rfl ?_ | refine TL_nil ?_ | refine T_seq ?_ | refine T_region ?_ | refine qcT rfl ?_ | refine qcF rfl ?_ | refine T_skip ?_
    | refine T_ret ?_ | refine T_block ?_ | refine E_then ?_ | refine E_thenR ?_ | refine E_blockN ?_ | refine E_blockR ?_
    | refine qs rfl rfl rfl rfl rfl rfl ?_
    | ((try refine qg rfl rfl rfl ?_); first | refine qv rfl (qp rfl) rfl rfl ?_ | refine qv rfl (rr_nilc rfl) rfl rfl ?_ | refine qv rfl (rr_load1 (v := vl) TyC.ty rfl (at_blk (i := 0) rfl rfl)) rfl rfl ?_ | refine qv rfl (qlen Und.eq rfl) rfl rfl ?_ | refine qv rfl (qfld FldC.fld rfl rfl) rfl rfl ?_ | refine qv rfl (rr_nilc rfl) rfl rfl ?_ | refine qv rfl (rr_eql rfl rfl (qT (by omega))) rfl rfl ?_ | refine qv rfl (rr_eql rfl rfl (qF (by omega))) rfl rfl ?_))
  refine TL_push1 (i := 5) (bytes := 1) rfl rfl rfl rfl rfl rfl (fun z h => by cases h; rfl) (by omega) (by omega) rfl fun z2 vl' => ?_
  conv => arg 8; simp only [zA, zB, zC, zD, zE, zF, zG, zH, zI, rowS, ret, id_eq]
  repeat (first
    | refine qv rfl (qp rfl) rfl rfl ?_ | refine TL_nil ?_ | refine T_seq ?_ | refine T_region ?_ | refine qcT rfl ?_ | refine qcF rfl ?_ | refine T_skip ?_
    | refine T_ret ?_ | refine T_block ?_ | refine E_then ?_ | refine E_thenR ?_ | refine E_blockN ?_ | refine E_blockR ?_
    | refine qs rfl rfl rfl rfl rfl rfl ?_
    | ((try refine qg rfl rfl rfl ?_); first | refine qv rfl (qp rfl) rfl rfl ?_ | refine qv rfl (rr_nilc rfl) rfl rfl ?_ | refine qv rfl (qlen Und.eq rfl) rfl rfl ?_ | refine qv rfl (qfld FldC.fld rfl rfl) rfl rfl ?_ | refine qv rfl (rr_nilc rfl) rfl rfl ?_ | refine qv rfl (rr_eql rfl rfl (qT (by omega))) rfl rfl ?_ | refine qv rfl (rr_eql rfl rfl (qF (by omega))) rfl rfl ?_))
  refine TL_slv (i := 5) rfl fun hv1 hv2 => TL_store1 (i := 0) rfl rfl rfl hv1 hv2 rfl ?_
  conv => arg 8; simp only [zA, zB, zC, zD, zE, zF, zG, zH, zI, rowS, ret, id_eq]
  repeat (first
    | refine qv rfl (qp rfl) rfl rfl ?_ | refine TL_nil ?_ | refine T_seq ?_ | refine T_region ?_ | refine qcT rfl ?_ | refine qcF rfl ?_ | refine T_skip ?_
    | refine T_ret ?_ | refine T_block ?_ | refine E_then ?_ | refine E_thenR ?_ | refine E_blockN ?_ | refine E_blockR ?_
    | refine qs rfl rfl rfl rfl rfl rfl ?_
    | ((try refine qg rfl rfl rfl ?_); first | refine qv rfl (qp rfl) rfl rfl ?_ | refine qv rfl (qlen Und.eq rfl) rfl rfl ?_ | refine qv rfl (qfld FldC.fld rfl rfl) rfl rfl ?_ | refine qv rfl (rr_nilc rfl) rfl rfl ?_ | refine qv rfl (rr_eql rfl rfl (qT (by omega))) rfl rfl ?_ | refine qv rfl (rr_eql rfl rfl (qF (by omega))) rfl rfl ?_))
  refine TL_litN (cs := #[.int .i64 p.classes.length]) [.int .i64 p.classes.length] rfl rfl rfl (by intro v hv; simp at hv; subst hv; rfl) rfl rfl rfl fun g76 => ?_
  conv => arg 8; simp only [zA, zB, zC, zD, zE, zF, zG, zH, zI, rowS, ret, id_eq]
  repeat (first
    | refine qv rfl (qp rfl) rfl rfl ?_ | refine TL_nil ?_ | refine T_seq ?_ | refine T_region ?_ | refine qcT rfl ?_ | refine qcF rfl ?_ | refine T_skip ?_
    | refine T_ret ?_ | refine T_block ?_ | refine E_then ?_ | refine E_thenR ?_ | refine E_blockN ?_ | refine E_blockR ?_
    | refine qs rfl rfl rfl rfl rfl rfl ?_
    | ((try refine qg rfl rfl rfl ?_); first | refine qv rfl (qp rfl) rfl rfl ?_ | refine qv rfl (qlen Und.eq rfl) rfl rfl ?_ | refine qv rfl (qfld FldC.fld rfl rfl) rfl rfl ?_ | refine qv rfl (rr_nilc rfl) rfl rfl ?_ | refine qv rfl (rr_eql rfl rfl (qT (by omega))) rfl rfl ?_ | refine qv rfl (rr_eql rfl rfl (qF (by omega))) rfl rfl ?_))
  refine TL_litN (cs := #[.int .i64 p.classes.length]) [.int .i64 p.classes.length] rfl rfl rfl (by intro v hv; simp at hv; subst hv; rfl) rfl rfl rfl fun g78 => ?_
  conv => arg 8; simp only [zA, zB, zC, zD, zE, zF, zG, zH, zI, rowS, ret, id_eq]
  repeat (first
    | refine qv rfl (qp rfl) rfl rfl ?_ | refine TL_nil ?_ | refine T_seq ?_ | refine T_region ?_ | refine qcT rfl ?_ | refine qcF rfl ?_ | refine T_skip ?_
    | refine T_ret ?_ | refine T_block ?_ | refine E_then ?_ | refine E_thenR ?_ | refine E_blockN ?_ | refine E_blockR ?_
    | refine qs rfl rfl rfl rfl rfl rfl ?_
    | ((try refine qg rfl rfl rfl ?_); first | refine qv rfl (qp rfl) rfl rfl ?_ | refine qv rfl (rr_build rfl (build_shp2 _ _ _ _ _ _)) rfl rfl ?_ | refine qv rfl (qlen Und.eq rfl) rfl rfl ?_ | refine qv rfl (qfld FldC.fld rfl rfl) rfl rfl ?_ | refine qv rfl (rr_nilc rfl) rfl rfl ?_ | refine qv rfl (rr_eql rfl rfl (qT (by omega))) rfl rfl ?_ | refine qv rfl (rr_eql rfl rfl (qF (by omega))) rfl rfl ?_))
  refine TL_storeB (i := 6) (cs' := #[.bool false, .slice (some ⟨g76, 0, none⟩) 1 1, .slice (some ⟨g78, 0, none⟩) 1 1]) rfl rfl rfl rfl rfl rfl ?_
  conv => arg 8; simp only [zA, zB, zC, zD, zE, zF, zG, zH, zI, rowS, ret, id_eq]
  repeat (first
    | refine qv rfl (qp rfl) rfl rfl ?_ | refine TL_nil ?_ | refine T_seq ?_ | refine T_region ?_ | refine qcT rfl ?_ | refine qcF rfl ?_ | refine T_skip ?_
    | refine T_ret ?_ | refine T_block ?_ | refine E_then ?_ | refine E_thenR ?_ | refine E_blockN ?_ | refine E_blockR ?_
    | refine qs rfl rfl rfl rfl rfl rfl ?_
    | ((try refine qg rfl rfl rfl ?_); first | refine qv rfl (qp rfl) rfl rfl ?_ | refine qv rfl (qlen Und.eq rfl) rfl rfl ?_ | refine qv rfl (qfld FldC.fld rfl rfl) rfl rfl ?_ | refine qv rfl (rr_nilc rfl) rfl rfl ?_ | refine qv rfl (rr_eql rfl rfl (qT (by omega))) rfl rfl ?_ | refine qv rfl (rr_eql rfl rfl (qF (by omega))) rfl rfl ?_))
  refine E_reown (i := 7) (intR (.slice (some ⟨g76, 0, none⟩) 1 1) [(p.classes.length : Int)]) rfl (fun w h => one_row h) (fun k hk => hk) ?_
  refine E_reown (i := 8) (intR (.slice (some ⟨g78, 0, none⟩) 1 1) [(p.classes.length : Int)]) rfl (fun w h => one_row h) (fun k hk => hk) ?_
  refine E_reown (i := 4) (folE (fun k => F k ∨ False) (vs ++ [.slice none 0 0]) (p.follow ++ [[]])) rfl (fun w h => by
    have := els_snoc (F2 := fun _ => False) h (show folS.is (fun _ => False) w [.slice none 0 0] [] from ⟨_, rfl, fun _ h => (by cases h), ⟨rfl, .inl ⟨rfl, rfl⟩⟩, fun _ h => (by cases h)⟩) (fun k hk => hk.elim)
    rw [show vs.map one1 ++ [[Value.slice none 0 0]] = (vs ++ [Value.slice none 0 0]).map one1 by rw [List.map_append]; rfl] at this
    exact this) (fun k hk => hk.elim (fun h => by cases h) fun h => h.elim (fun h => .inr h) False.elim) ?_
  refine E_retc1 (i := 6) rfl rfl rfl rfl fun w hm => ?_
  refine hm.meetsB (S := nodeSp g vf ve rule (nodeF rule (.byte c) p)) (⟨vc', vr', vfol', vl', vs ++ [.slice none 0 0], fun k => F k ∨ False⟩, .slice (some ⟨g76, 0, none⟩) 1 1, .slice (some ⟨g78, 0, none⟩) 1 1) (by show (vs ++ [_]).length = (p.follow ++ [[]]).length; rw [List.length_append, List.length_append, hx]; rfl) [0, 1, 2, 3, 4, 5, 7, 8] (by decide) ?_
  show [_, _, _, folR vfol' (vs ++ [Value.slice none 0 0]), _, rowO 4 1 vl' (p.last ++ [false]).length ((p.last ++ [false]).map Value.bool), _, _] = _
  rw [← fol_snoc, ← bool_snoc]; rfl
end Go.Proofs.Ytknojgjdaafboaa.eng

/- PlS -/
namespace Go.Proofs.Ytknojgjdaafboaa.eng
open Go.RowKit kit mix classL rexL placesL
set_option maxHeartbeats 16000000 in
theorem node_star {M : Nat} (IH : NodeAt M) (a : Re) (ha : a.size ≤ M) (g : Nat) (vf ve : Value) (rule : Int) (p : PS) (x : MIx) (v : Value) (w : World) (B : Base) (hp : PSOk p) (hx : x.vs.length = p.follow.length) (hn : p.classes.length + (a.size + 1) ≤ 100000) (hr64 : kit.okI64 rule) (hv : RexR (OldB B) B.w v (emb (.star a))) (hm : Mem B (mkL g vf ve rule x p) w) :
    Calls Try.prog 13 #[.pointer (some ⟨g, 0, none⟩), v] w (MeetsB (nodeSp g vf ve rule (nodeF rule (.star a) p)) B) := by
  obtain ⟨vk, rfl, _, hks⟩ := hv
  obtain ⟨bk, ck, rfl, h1, h2, h3⟩ := hks
  obtain ⟨b, off, rfl, hF, hrd⟩ := h3 (by show 0 < 1; decide)
  obtain ⟨kb, kc, hr, hkid⟩ := rkid_at (k := 0) hrd (by show 0 < 1; decide)
  have hat := fun (L : List Own) (j : Nat) (v : Value) hj => at_oldB (L := L) hF hr j v hj
  clear h3 hrd hr
  obtain ⟨hp1, hp2, hp3, hp4, hp5⟩ := node_ok rule a p hp
  have hspec : nodeF rule (.star a) p = (⟨true, (nodeF rule a p).1.first, (nodeF rule a p).1.last⟩, { (nodeF rule a p).2 with follow := behindF (nodeF rule a p).2.follow (nodeF rule a p).1.last (nodeF rule a p).1.first }) := rfl
  have hIH := fun w B hv hm => IH a ha g vf ve rule p x (rexV (emb a).kind (emb a).cls (.slice kb (emb a).kids.length kc)) w B hp hx (by omega) hr64 hv hm
  rw [hspec]
  generalize nodeF rule a p = R at *
  obtain ⟨⟨e, first, last⟩, p'⟩ := R
  dsimp only at hp1 hp2 hp3 hp4 hp5 ⊢
  clear hspec
  unfold mkL at hm
  refine enterB hm (args := [.pointer (some ⟨g, 0, none⟩), rexV 6 C4.zero (.slice (some ⟨b, off, none⟩) 1 ck)]) (n := 176) Try.func13 rfl rfl rfl ?_
  clear hm
  refine T_seq (T_region (TL_box rfl rfl rfl fun g3 => TL_new rfl fun g4 => ?_))
  conv => arg 8; simp only [zA, zB, zC, zD, zE, zF, zG, zH, zI, rowS, ret, id_eq]
  repeat (first
    | refine qv rfl (qp rfl) rfl rfl ?_ | refine TL_nil ?_ | refine T_seq ?_ | refine T_region ?_ | refine qcT rfl ?_ | refine qcF rfl ?_ | refine T_skip ?_
    | refine T_ret ?_ | refine T_block ?_ | refine E_then ?_ | refine E_thenR ?_ | refine E_blockN ?_ | refine E_blockR ?_
    | refine qs rfl rfl rfl rfl rfl rfl ?_
    | ((try refine qg rfl rfl rfl ?_); first | refine qv rfl (qp rfl) rfl rfl ?_ | refine qv rfl (rr_load1 (v := .int .i64 6) TyC.ty rfl (at_blk (i := 6) rfl rfl)) rfl rfl ?_ | refine qv rfl (rr_load1 (v := .slice (some ⟨b, off, none⟩) 1 ck) TyC.ty rfl (at_blk (i := 6) rfl rfl)) rfl rfl ?_ | refine qv rfl (rr_idxc (j := 0) Und.eq TyC.ty rfl rfl (by decide)) rfl rfl ?_ | refine qv rfl (rr_loadN TyC.ty rfl rfl (hat _)) rfl rfl ?_ | refine qv rfl (qlen Und.eq rfl) rfl rfl ?_ | refine qv rfl (qfld FldC.fld rfl rfl) rfl rfl ?_ | refine qv rfl (rr_nilc rfl) rfl rfl ?_ | refine qv rfl (rr_eql rfl rfl (qT (by omega))) rfl rfl ?_ | refine qv rfl (rr_eql rfl rfl (qF (by omega))) rfl rfl ?_))
  refine TL_callB [0, 1, 2, 3, 4, 5] [6, 7] (by decide) rfl rfl (he2 EntersC.en rfl rfl rfl) (fun w hm hb => hIH w _ (rex_on (hm.pick [0, 1, 2, 3, 4, 5] (by decide) rfl) hkid) hb) rfl rfl rfl ?_
  rintro ⟨⟨vc, vr, vfol, vl, vs, F⟩, va, vb⟩ hx'
  have hx' : vs.length = p'.follow.length := hx'
  conv => arg 8; simp only [zA, zB, zC, zD, zE, zF, zG, zH, zI, rowS, ret, id_eq, nodeSp, mkL]
  conv => arg 7; simp only [nodeSp]
  refine TL_slv (i := 8) rfl fun hva1 hva2 => ?_
  refine TL_slv (i := 9) rfl fun hvb1 hvb2 => ?_
  refine TL_new rfl fun g6 => ?_
  conv => arg 8; simp only [zA, zB, zC, zD, zE, zF, zG, zH, zI, rowS, ret, id_eq]
  refine TL_storeB (i := 10) (cs' := #[.bool e, va, vb]) rfl rfl rfl rfl (by simp only [List.all_cons, List.all_nil, hva2, hvb2]; rfl) rfl ?_
  conv => arg 8; simp only [zA, zB, zC, zD, zE, zF, zG, zH, zI, rowS, ret, id_eq]
  repeat (first
    | refine qv rfl (qp rfl) rfl rfl ?_ | refine TL_nil ?_ | refine T_seq ?_ | refine T_region ?_ | refine qcT rfl ?_ | refine qcF rfl ?_ | refine T_skip ?_
    | refine T_ret ?_ | refine T_block ?_ | refine E_then ?_ | refine E_thenR ?_ | refine E_blockN ?_ | refine E_blockR ?_
    | refine qs rfl rfl rfl rfl rfl rfl ?_
    | ((try refine qg rfl rfl rfl ?_); first | refine qv rfl (qp rfl) rfl rfl ?_ | refine qv rfl (rr_load1 (v := vb) TyC.ty rfl (at_blk (i := 10) rfl rfl)) rfl rfl ?_ | refine qv rfl (rr_load1 (v := va) TyC.ty rfl (at_blk (i := 10) rfl rfl)) rfl rfl ?_ | refine qv rfl (qlen Und.eq rfl) rfl rfl ?_ | refine qv rfl (qfld FldC.fld rfl rfl) rfl rfl ?_ | refine qv rfl (rr_nilc rfl) rfl rfl ?_ | refine qv rfl (rr_eql rfl rfl (qT (by omega))) rfl rfl ?_ | refine qv rfl (rr_eql rfl rfl (qF (by omega))) rfl rfl ?_))
  refine TL_callB [2, 5, 6, 9, 8] [0, 1, 3, 4, 7, 10] (by decide) rfl rfl (he3 EntersC.en rfl rfl rfl rfl) (fun w hm hb => behind_calls g vc vr vf vfol vl ve rule vb va vs F p'.follow last first w _ hx' (by rw [hp1.follow]; omega) (by rw [hp1.follow]; exact hp1.ris) (by rw [hp1.follow]; exact hp5) (by rw [hp1.follow]; exact hp4) hb) rfl rfl rfl ?_
  rintro ⟨vs', F'⟩ hx2
  have hx2 : vs'.length = p'.follow.length := hx2
  conv => arg 8; simp only [zA, zB, zC, zD, zE, zF, zG, zH, zI, rowS, ret, id_eq, behSp]
  repeat (first
    | refine qv rfl (qp rfl) rfl rfl ?_ | refine TL_nil ?_ | refine T_seq ?_ | refine T_region ?_ | refine qcT rfl ?_ | refine qcF rfl ?_ | refine T_skip ?_
    | refine T_ret ?_ | refine T_block ?_ | refine E_then ?_ | refine E_thenR ?_ | refine E_blockN ?_ | refine E_blockR ?_
    | refine qs rfl rfl rfl rfl rfl rfl ?_
    | ((try refine qg rfl rfl rfl ?_); first | refine qv rfl (qp rfl) rfl rfl ?_ | refine qv rfl (qlen Und.eq rfl) rfl rfl ?_ | refine qv rfl (qfld FldC.fld rfl rfl) rfl rfl ?_ | refine qv rfl (rr_nilc rfl) rfl rfl ?_ | refine qv rfl (rr_eql rfl rfl (qT (by omega))) rfl rfl ?_ | refine qv rfl (rr_eql rfl rfl (qF (by omega))) rfl rfl ?_))
  refine TL_store1 (i := 5) rfl rfl rfl rfl rfl rfl ?_
  conv => arg 8; simp only [zA, zB, zC, zD, zE, zF, zG, zH, zI, rowS, ret, id_eq]
  repeat (first
    | refine qv rfl (qp rfl) rfl rfl ?_ | refine TL_nil ?_ | refine T_seq ?_ | refine T_region ?_ | refine qcT rfl ?_ | refine qcF rfl ?_ | refine T_skip ?_
    | refine T_ret ?_ | refine T_block ?_ | refine E_then ?_ | refine E_thenR ?_ | refine E_blockN ?_ | refine E_blockR ?_
    | refine qs rfl rfl rfl rfl rfl rfl ?_
    | ((try refine qg rfl rfl rfl ?_); first | refine qv rfl (qp rfl) rfl rfl ?_ | refine qv rfl (rr_loadB (i := 5) TyC.ty rfl rfl rfl) rfl rfl ?_ | refine qv rfl (qlen Und.eq rfl) rfl rfl ?_ | refine qv rfl (qfld FldC.fld rfl rfl) rfl rfl ?_ | refine qv rfl (rr_nilc rfl) rfl rfl ?_ | refine qv rfl (rr_eql rfl rfl (qT (by omega))) rfl rfl ?_ | refine qv rfl (rr_eql rfl rfl (qF (by omega))) rfl rfl ?_))
  refine TL_storeB (i := 1) (cs' := #[.bool true, va, vb]) rfl rfl rfl rfl (by simp only [List.all_cons, List.all_nil, hva2, hvb2]; rfl) rfl ?_
  conv => arg 8; simp only [zA, zB, zC, zD, zE, zF, zG, zH, zI, rowS, ret, id_eq]
  repeat (first
    | refine qv rfl (qp rfl) rfl rfl ?_ | refine TL_nil ?_ | refine T_seq ?_ | refine T_region ?_ | refine qcT rfl ?_ | refine qcF rfl ?_ | refine T_skip ?_
    | refine T_ret ?_ | refine T_block ?_ | refine E_then ?_ | refine E_thenR ?_ | refine E_blockN ?_ | refine E_blockR ?_
    | refine qs rfl rfl rfl rfl rfl rfl ?_
    | ((try refine qg rfl rfl rfl ?_); first | refine qv rfl (qp rfl) rfl rfl ?_ | refine qv rfl (qlen Und.eq rfl) rfl rfl ?_ | refine qv rfl (qfld FldC.fld rfl rfl) rfl rfl ?_ | refine qv rfl (rr_nilc rfl) rfl rfl ?_ | refine qv rfl (rr_eql rfl rfl (qT (by omega))) rfl rfl ?_ | refine qv rfl (rr_eql rfl rfl (qF (by omega))) rfl rfl ?_))
  refine E_retc1 (i := 1) rfl rfl rfl rfl fun w hm => ?_
  exact hm.meetsB (S := nodeSp g vf ve rule (⟨true, first, last⟩, { p' with follow := behindF p'.follow last first })) (⟨vc, vr, vfol, vl, vs', F'⟩, va, vb) (by show vs'.length = (behindF p'.follow last first).length; rw [behind_len]; exact hx2) [6, 2, 3, 7, 8, 4, 10, 9] (by decide) rfl
end Go.Proofs.Ytknojgjdaafboaa.eng

/- PlA -/
namespace Go.Proofs.Ytknojgjdaafboaa.eng
open Go.RowKit kit mix classL rexL placesL
theorem build_shpA (e : Bool) (b b' : Option Addr) (m m' k k' : Nat) (w : World) : (Instr.build 55 #[(0, .bool e), (1, .slice b m k), (2, .slice b' m' k')]).run Try.prog w = .ok (.agg #[.bool e, .slice b m k, .slice b' m' k']) w := by
  go_simp
set_option maxHeartbeats 32000000 in
set_option maxRecDepth 100000 in
theorem node_alt {M : Nat} (IH : NodeAt M) (a b1 : Re) (ha : a.size ≤ M) (hb1 : b1.size ≤ M) (g : Nat) (vf ve : Value) (rule : Int) (p : PS) (x : MIx) (v : Value) (w : World) (B : Base) (hp : PSOk p) (hx : x.vs.length = p.follow.length) (hn : p.classes.length + (a.size + b1.size + 1) ≤ 100000) (hr64 : kit.okI64 rule) (hv : RexR (OldB B) B.w v (emb (.alt a b1))) (hm : Mem B (mkL g vf ve rule x p) w) :
    Calls Try.prog 13 #[.pointer (some ⟨g, 0, none⟩), v] w (MeetsB (nodeSp g vf ve rule (nodeF rule (.alt a b1) p)) B) := by
  obtain ⟨vk, rfl, _, hks⟩ := hv
  obtain ⟨bk, ck, rfl, h1, h2, h3⟩ := hks
  obtain ⟨b, off, rfl, hF, hrd⟩ := h3 (by show 0 < 2; decide)
  obtain ⟨kb, kc, hr, hkid1⟩ := rkid_at (k := 0) hrd (by show 0 < 2; decide)
  obtain ⟨kb2, kc2, hr2, hkid2⟩ := rkid_at (k := 1) hrd (by show 1 < 2; decide)
  have hat1 := fun (L : List Own) (j : Nat) (v : Value) hj => at_oldB (L := L) hF hr j v hj
  have hat2 := fun (L : List Own) (j : Nat) (v : Value) hj => at_oldB (L := L) hF hr2 j v hj
  clear h3 hrd hr hr2
  obtain ⟨hp1, hp2, hp3, hp4, hp5⟩ := node_ok rule a p hp
  obtain ⟨kp1, kp2, kp3, kp4, kp5⟩ := node_ok rule b1 _ hp1
  have hI1 := fun w B hv hm => IH a ha g vf ve rule p x (rexV (emb a).kind (emb a).cls (.slice kb (emb a).kids.length kc)) w B hp hx (by omega) hr64 hv hm
  have hI2 := fun x1 hx1 w B hv hm => IH b1 hb1 g vf ve rule (nodeF rule a p).2 x1 (rexV (emb b1).kind (emb b1).cls (.slice kb2 (emb b1).kids.length kc2)) w B hp1 hx1 (by omega) hr64 hv hm
  rw [show nodeF rule (.alt a b1) p = (⟨(nodeF rule a p).1.empty || (nodeF rule b1 (nodeF rule a p).2).1.empty, uni (nodeF rule a p).1.first (nodeF rule b1 (nodeF rule a p).2).1.first, uni (nodeF rule a p).1.last (nodeF rule b1 (nodeF rule a p).2).1.last⟩, (nodeF rule b1 (nodeF rule a p).2).2) from rfl]
  generalize nodeF rule b1 (nodeF rule a p).2 = R2 at *
  generalize nodeF rule a p = R1 at *
  obtain ⟨⟨e1, first1, last1⟩, p1⟩ := R1
  obtain ⟨⟨e2, first2, last2⟩, p2⟩ := R2
  dsimp only at hp1 hp2 hp3 hp4 hp5 kp1 kp2 kp3 kp4 kp5 hI2 ⊢
  unfold mkL at hm
  refine enterB hm (args := [.pointer (some ⟨g, 0, none⟩), rexV 5 C4.zero (.slice (some ⟨b, off, none⟩) 2 ck)]) (n := 176) Try.func13 rfl rfl rfl ?_
  clear hm
  refine T_seq (T_region (TL_box rfl rfl rfl fun g3 => TL_new rfl fun g4 => ?_))
  conv => arg 8; simp only [zA, zB, zC, zD, zE, zF, zG, zH, zI, rowS, ret, id_eq]
  repeat (first
    | refine qv rfl (qp rfl) rfl rfl ?_ | refine TL_nil ?_ | refine T_seq ?_ | refine T_region ?_ | refine qcT rfl ?_ | refine qcF rfl ?_ | refine T_skip ?_
    | refine T_ret ?_ | refine T_block ?_ | refine E_then ?_ | refine E_thenR ?_ | refine E_blockN ?_ | refine E_blockR ?_
    | refine qs rfl rfl rfl rfl rfl rfl ?_
    | ((try refine qg rfl rfl rfl ?_); first | refine qv rfl (qp rfl) rfl rfl ?_ | refine qv rfl (rr_load1 (v := .int .i64 5) TyC.ty rfl (at_blk (i := 6) rfl rfl)) rfl rfl ?_ | refine qv rfl (qlen Und.eq rfl) rfl rfl ?_ | refine qv rfl (qfld FldC.fld rfl rfl) rfl rfl ?_ | refine qv rfl (rr_nilc rfl) rfl rfl ?_ | refine qv rfl (rr_eql rfl rfl (qT (by omega))) rfl rfl ?_ | refine qv rfl (rr_eql rfl rfl (qF (by omega))) rfl rfl ?_))
  (repeat refine T_seq ?_)
  refine T_midq (ι := MIx × Value × Value × Value × Value × Nat × Nat) (fun y => y.1.vs.length = p2.follow.length) (fun y => [(0, .pointer (some ⟨g, 0, none⟩)), (4, .pointer (some ⟨g4, 0, none⟩)), (7, .pointer (some ⟨y.2.2.2.2.2.1, 0, none⟩)), (8, .pointer (some ⟨y.2.2.2.2.2.2, 0, none⟩))])
    (fun y => mkL g vf ve rule y.1 p2 ++ [intR y.2.1 first1, intR y.2.2.1 last1, intR y.2.2.2.1 first2, intR y.2.2.2.2.1 last2, blkO g4 #[.bool false, .slice none 0 0, .slice none 0 0] 55, blkO y.2.2.2.2.2.1 #[.bool e1, y.2.1, y.2.2.1] 55, blkO y.2.2.2.2.2.2 #[.bool e2, y.2.2.2.1, y.2.2.2.2.1] 55]) ?_ ?_
  · refine T_ord ([blkO g3 (rexC 5 C4.zero (.slice (some ⟨b, off, none⟩) 2 ck)).toArray 33]) (.calm 0 (.calm 1 (.calm 2 (.calm 3 (.calm 4 (.calm 6 (.calm 7 (.calm 8 (.calm 9 (.calm 10 (.three 5 (.three 11 (.two 12 (.one 13 (.one 14 (.one 15 (.done)))) 13 (.one 12 (.one 14 (.one 15 (.done))))) 12 (.two 11 (.one 13 (.one 14 (.one 15 (.done)))) 13 (.one 11 (.one 14 (.one 15 (.done))))) 13 (.two 11 (.one 12 (.one 14 (.one 15 (.done)))) 12 (.one 11 (.one 14 (.one 15 (.done)))))) 12 (.two 5 (.two 11 (.one 13 (.one 14 (.one 15 (.done)))) 13 (.one 11 (.one 14 (.one 15 (.done))))) 13 (.one 5 (.one 11 (.one 14 (.one 15 (.done)))))) 13 (.two 5 (.two 11 (.one 12 (.one 14 (.one 15 (.done)))) 12 (.one 11 (.one 14 (.one 15 (.done))))) 12 (.one 5 (.one 11 (.one 14 (.one 15 (.done))))))))))))))))) (sub_pick [6] (by decide) rfl) (by kernel_rfl) (by kernel_rfl) (by intro c a d v w h; cases d <;> exact h) ?_
    repeat (first
      | ((first | refine TW_plain rfl rfl ?_ | refine TW_gmet rfl rfl rfl rfl ?_); first | refine TN_val (qp rfl) rfl rfl ?_ | refine TN_val (rr_load1 (v := .slice (some ⟨b, off, none⟩) 2 ck) TyC.ty rfl (at_blk (i := 0) rfl rfl)) rfl rfl ?_ | refine TN_val (rr_idxc (j := 0) Und.eq TyC.ty rfl rfl (by decide)) rfl rfl ?_ | refine TN_val (rr_idxc (j := 1) Und.eq TyC.ty rfl rfl (by decide)) rfl rfl ?_ | refine TN_val (rr_loadN TyC.ty rfl rfl (hat1 _)) rfl rfl ?_ | refine TN_val (rr_loadN TyC.ty rfl rfl (hat2 _)) rfl rfl ?_ | refine TN_val (qlen Und.eq rfl) rfl rfl ?_ | refine TN_val (qfld FldC.fld rfl rfl) rfl rfl ?_ | refine TN_val (rr_nilc rfl) rfl rfl ?_ | refine TN_val (rr_eql rfl rfl (qT (by omega))) rfl rfl ?_ | refine TN_val (rr_eql rfl rfl (qF (by omega))) rfl rfl ?_)
      | refine TW_skip rfl rfl rfl rfl rfl rfl rfl ?_ | refine TW_done ?_)
    refine TW_three rfl rfl rfl ?_ ?_ ?_
    · refine TL_callB [0, 1, 2, 3, 4, 5] [6, 7] (by decide) rfl rfl (he2 EntersC.en rfl rfl rfl) (fun w hm hb => hI1 w _ (rex_on (hm.pick [0, 1, 2, 3, 4, 5] (by decide) rfl) hkid1) hb) rfl rfl rfl ?_
      rintro ⟨⟨vc1, vr1, vfol1, vl1, vs1, F1⟩, va1, vb1⟩ hx1
      have hx1 : vs1.length = p1.follow.length := hx1
      conv => arg 8; simp only [zA, zB, zC, zD, zE, zF, zG, zH, zI, rowS, ret, id_eq, nodeSp, mkL]
      conv => arg 7; simp only [nodeSp]
      refine TW_on (sub_pick [0] (by decide) rfl) ?_
      refine TW_three rfl rfl rfl ?_ ?_ ?_
      · refine TL_callB [2, 3, 4, 5, 6, 7] [0, 1, 8, 9] (by decide) rfl rfl (he2 EntersC.en rfl rfl rfl) (fun w hm hb => hI2 ⟨vc1, vr1, vfol1, vl1, vs1, F1⟩ hx1 w _ (rex_on (hm.pick [2, 3, 4, 5, 6, 7] (by decide) rfl) hkid2) hb) rfl rfl rfl ?_
        rintro ⟨⟨vc2, vr2, vfol2, vl2, vs2, F2⟩, va2, vb2⟩ hx2
        have hx2 : vs2.length = p2.follow.length := hx2
        conv => arg 8; simp only [zA, zB, zC, zD, zE, zF, zG, zH, zI, rowS, ret, id_eq, nodeSp, mkL]
        conv => arg 7; simp only [nodeSp]
        refine TW_on (sub_pick [0] (by decide) rfl) ?_
        refine TW_two rfl rfl ?_ ?_
        · refine TL_new rfl fun g7 => (TW_on (sub_pick [0] (by decide) rfl) ?_)
          refine TW_one rfl (TL_new rfl fun g8 => (TW_on (sub_pick [0] (by decide) rfl) ?_))
          refine TW_one rfl (TL_slv (i := 2) rfl fun _ qa1 => TL_slv (i := 3) rfl fun _ qb1 => TL_storeB (i := 12) (cs' := #[.bool e1, va1, vb1]) rfl rfl rfl rfl (by simp only [List.all_cons, List.all_nil, qa1, qb1]; rfl) rfl (TW_on (sub_pick [0] (by decide) rfl) ?_))
          repeat (first
            | ((first | refine TW_plain rfl rfl ?_ | refine TW_gmet rfl rfl rfl rfl ?_); first | refine TN_val (qp rfl) rfl rfl ?_ | refine TN_val (qlen Und.eq rfl) rfl rfl ?_ | refine TN_val (qfld FldC.fld rfl rfl) rfl rfl ?_ | refine TN_val (rr_nilc rfl) rfl rfl ?_ | refine TN_val (rr_eql rfl rfl (qT (by omega))) rfl rfl ?_ | refine TN_val (rr_eql rfl rfl (qF (by omega))) rfl rfl ?_)
            | refine TW_skip rfl rfl rfl rfl rfl rfl rfl ?_ | refine TW_done ?_)
          refine TW_one rfl (TL_slv (i := 10) rfl fun _ qa2 => TL_slv (i := 11) rfl fun _ qb2 => TL_storeB (i := 13) (cs' := #[.bool e2, va2, vb2]) rfl rfl rfl rfl (by simp only [List.all_cons, List.all_nil, qa2, qb2]; rfl) rfl (TW_on (sub_pick [0] (by decide) rfl) ?_))
          repeat (first
            | ((first | refine TW_plain rfl rfl ?_ | refine TW_gmet rfl rfl rfl rfl ?_); first | refine TN_val (qp rfl) rfl rfl ?_ | refine TN_val (qlen Und.eq rfl) rfl rfl ?_ | refine TN_val (qfld FldC.fld rfl rfl) rfl rfl ?_ | refine TN_val (rr_nilc rfl) rfl rfl ?_ | refine TN_val (rr_eql rfl rfl (qT (by omega))) rfl rfl ?_ | refine TN_val (rr_eql rfl rfl (qF (by omega))) rfl rfl ?_)
            | refine TW_skip rfl rfl rfl rfl rfl rfl rfl ?_ | refine TW_done ?_)
          refine E_pick [4, 5, 6, 7, 8, 9, 2, 3, 10, 11, 1, 12, 13] (by decide) rfl ?_
          exact E_mid (⟨vc2, vr2, vfol2, vl2, vs2, F2⟩, va1, vb1, va2, vb2, g7, g8) hx2 (by repeat' (first | exact True.intro | refine And.intro rfl ?_)) rfl
        · refine TL_new rfl fun g8 => (TW_on (sub_pick [0] (by decide) rfl) ?_)
          refine TW_one rfl (TL_new rfl fun g7 => (TW_on (sub_pick [0] (by decide) rfl) ?_))
          refine TW_one rfl (TL_slv (i := 2) rfl fun _ qa1 => TL_slv (i := 3) rfl fun _ qb1 => TL_storeB (i := 13) (cs' := #[.bool e1, va1, vb1]) rfl rfl rfl rfl (by simp only [List.all_cons, List.all_nil, qa1, qb1]; rfl) rfl (TW_on (sub_pick [0] (by decide) rfl) ?_))
          repeat (first
            | ((first | refine TW_plain rfl rfl ?_ | refine TW_gmet rfl rfl rfl rfl ?_); first | refine TN_val (qp rfl) rfl rfl ?_ | refine TN_val (qlen Und.eq rfl) rfl rfl ?_ | refine TN_val (qfld FldC.fld rfl rfl) rfl rfl ?_ | refine TN_val (rr_nilc rfl) rfl rfl ?_ | refine TN_val (rr_eql rfl rfl (qT (by omega))) rfl rfl ?_ | refine TN_val (rr_eql rfl rfl (qF (by omega))) rfl rfl ?_)
            | refine TW_skip rfl rfl rfl rfl rfl rfl rfl ?_ | refine TW_done ?_)
          refine TW_one rfl (TL_slv (i := 10) rfl fun _ qa2 => TL_slv (i := 11) rfl fun _ qb2 => TL_storeB (i := 12) (cs' := #[.bool e2, va2, vb2]) rfl rfl rfl rfl (by simp only [List.all_cons, List.all_nil, qa2, qb2]; rfl) rfl (TW_on (sub_pick [0] (by decide) rfl) ?_))
          repeat (first
            | ((first | refine TW_plain rfl rfl ?_ | refine TW_gmet rfl rfl rfl rfl ?_); first | refine TN_val (qp rfl) rfl rfl ?_ | refine TN_val (qlen Und.eq rfl) rfl rfl ?_ | refine TN_val (qfld FldC.fld rfl rfl) rfl rfl ?_ | refine TN_val (rr_nilc rfl) rfl rfl ?_ | refine TN_val (rr_eql rfl rfl (qT (by omega))) rfl rfl ?_ | refine TN_val (rr_eql rfl rfl (qF (by omega))) rfl rfl ?_)
            | refine TW_skip rfl rfl rfl rfl rfl rfl rfl ?_ | refine TW_done ?_)
          refine E_pick [4, 5, 6, 7, 8, 9, 2, 3, 10, 11, 1, 13, 12] (by decide) rfl ?_
          exact E_mid (⟨vc2, vr2, vfol2, vl2, vs2, F2⟩, va1, vb1, va2, vb2, g7, g8) hx2 (by repeat' (first | exact True.intro | refine And.intro rfl ?_)) rfl
      · refine TL_new rfl fun g7 => (TW_on (sub_pick [0] (by decide) rfl) ?_)
        refine TW_two rfl rfl ?_ ?_
        · refine TL_callB [2, 3, 4, 5, 6, 7] [0, 1, 8, 9, 10] (by decide) rfl rfl (he2 EntersC.en rfl rfl rfl) (fun w hm hb => hI2 ⟨vc1, vr1, vfol1, vl1, vs1, F1⟩ hx1 w _ (rex_on (hm.pick [2, 3, 4, 5, 6, 7] (by decide) rfl) hkid2) hb) rfl rfl rfl ?_
          rintro ⟨⟨vc2, vr2, vfol2, vl2, vs2, F2⟩, va2, vb2⟩ hx2
          have hx2 : vs2.length = p2.follow.length := hx2
          conv => arg 8; simp only [zA, zB, zC, zD, zE, zF, zG, zH, zI, rowS, ret, id_eq, nodeSp, mkL]
          conv => arg 7; simp only [nodeSp]
          refine TW_on (sub_pick [0] (by decide) rfl) ?_
          refine TW_one rfl (TL_new rfl fun g8 => (TW_on (sub_pick [0] (by decide) rfl) ?_))
          refine TW_one rfl (TL_slv (i := 2) rfl fun _ qa1 => TL_slv (i := 3) rfl fun _ qb1 => TL_storeB (i := 4) (cs' := #[.bool e1, va1, vb1]) rfl rfl rfl rfl (by simp only [List.all_cons, List.all_nil, qa1, qb1]; rfl) rfl (TW_on (sub_pick [0] (by decide) rfl) ?_))
          repeat (first
            | ((first | refine TW_plain rfl rfl ?_ | refine TW_gmet rfl rfl rfl rfl ?_); first | refine TN_val (qp rfl) rfl rfl ?_ | refine TN_val (qlen Und.eq rfl) rfl rfl ?_ | refine TN_val (qfld FldC.fld rfl rfl) rfl rfl ?_ | refine TN_val (rr_nilc rfl) rfl rfl ?_ | refine TN_val (rr_eql rfl rfl (qT (by omega))) rfl rfl ?_ | refine TN_val (rr_eql rfl rfl (qF (by omega))) rfl rfl ?_)
            | refine TW_skip rfl rfl rfl rfl rfl rfl rfl ?_ | refine TW_done ?_)
          refine TW_one rfl (TL_slv (i := 11) rfl fun _ qa2 => TL_slv (i := 12) rfl fun _ qb2 => TL_storeB (i := 13) (cs' := #[.bool e2, va2, vb2]) rfl rfl rfl rfl (by simp only [List.all_cons, List.all_nil, qa2, qb2]; rfl) rfl (TW_on (sub_pick [0] (by decide) rfl) ?_))
          repeat (first
            | ((first | refine TW_plain rfl rfl ?_ | refine TW_gmet rfl rfl rfl rfl ?_); first | refine TN_val (qp rfl) rfl rfl ?_ | refine TN_val (qlen Und.eq rfl) rfl rfl ?_ | refine TN_val (qfld FldC.fld rfl rfl) rfl rfl ?_ | refine TN_val (rr_nilc rfl) rfl rfl ?_ | refine TN_val (rr_eql rfl rfl (qT (by omega))) rfl rfl ?_ | refine TN_val (rr_eql rfl rfl (qF (by omega))) rfl rfl ?_)
            | refine TW_skip rfl rfl rfl rfl rfl rfl rfl ?_ | refine TW_done ?_)
          refine E_pick [5, 6, 7, 8, 9, 10, 2, 3, 11, 12, 1, 4, 13] (by decide) rfl ?_
          exact E_mid (⟨vc2, vr2, vfol2, vl2, vs2, F2⟩, va1, vb1, va2, vb2, g7, g8) hx2 (by repeat' (first | exact True.intro | refine And.intro rfl ?_)) rfl
        · refine TL_new rfl fun g8 => (TW_on (sub_pick [0] (by decide) rfl) ?_)
          refine TW_one rfl (TL_callB [2, 3, 4, 5, 6, 7] [0, 1, 8, 9, 10, 11] (by decide) rfl rfl (he2 EntersC.en rfl rfl rfl) (fun w hm hb => hI2 ⟨vc1, vr1, vfol1, vl1, vs1, F1⟩ hx1 w _ (rex_on (hm.pick [2, 3, 4, 5, 6, 7] (by decide) rfl) hkid2) hb) rfl rfl rfl ?_)
          rintro ⟨⟨vc2, vr2, vfol2, vl2, vs2, F2⟩, va2, vb2⟩ hx2
          have hx2 : vs2.length = p2.follow.length := hx2
          conv => arg 8; simp only [zA, zB, zC, zD, zE, zF, zG, zH, zI, rowS, ret, id_eq, nodeSp, mkL]
          conv => arg 7; simp only [nodeSp]
          refine TW_on (sub_pick [0] (by decide) rfl) ?_
          refine TW_one rfl (TL_slv (i := 2) rfl fun _ qa1 => TL_slv (i := 3) rfl fun _ qb1 => TL_storeB (i := 4) (cs' := #[.bool e1, va1, vb1]) rfl rfl rfl rfl (by simp only [List.all_cons, List.all_nil, qa1, qb1]; rfl) rfl (TW_on (sub_pick [0] (by decide) rfl) ?_))
          repeat (first
            | ((first | refine TW_plain rfl rfl ?_ | refine TW_gmet rfl rfl rfl rfl ?_); first | refine TN_val (qp rfl) rfl rfl ?_ | refine TN_val (qlen Und.eq rfl) rfl rfl ?_ | refine TN_val (qfld FldC.fld rfl rfl) rfl rfl ?_ | refine TN_val (rr_nilc rfl) rfl rfl ?_ | refine TN_val (rr_eql rfl rfl (qT (by omega))) rfl rfl ?_ | refine TN_val (rr_eql rfl rfl (qF (by omega))) rfl rfl ?_)
            | refine TW_skip rfl rfl rfl rfl rfl rfl rfl ?_ | refine TW_done ?_)
          refine TW_one rfl (TL_slv (i := 12) rfl fun _ qa2 => TL_slv (i := 13) rfl fun _ qb2 => TL_storeB (i := 5) (cs' := #[.bool e2, va2, vb2]) rfl rfl rfl rfl (by simp only [List.all_cons, List.all_nil, qa2, qb2]; rfl) rfl (TW_on (sub_pick [0] (by decide) rfl) ?_))
          repeat (first
            | ((first | refine TW_plain rfl rfl ?_ | refine TW_gmet rfl rfl rfl rfl ?_); first | refine TN_val (qp rfl) rfl rfl ?_ | refine TN_val (qlen Und.eq rfl) rfl rfl ?_ | refine TN_val (qfld FldC.fld rfl rfl) rfl rfl ?_ | refine TN_val (rr_nilc rfl) rfl rfl ?_ | refine TN_val (rr_eql rfl rfl (qT (by omega))) rfl rfl ?_ | refine TN_val (rr_eql rfl rfl (qF (by omega))) rfl rfl ?_)
            | refine TW_skip rfl rfl rfl rfl rfl rfl rfl ?_ | refine TW_done ?_)
          refine E_pick [6, 7, 8, 9, 10, 11, 2, 3, 12, 13, 1, 4, 5] (by decide) rfl ?_
          exact E_mid (⟨vc2, vr2, vfol2, vl2, vs2, F2⟩, va1, vb1, va2, vb2, g7, g8) hx2 (by repeat' (first | exact True.intro | refine And.intro rfl ?_)) rfl
      · refine TL_new rfl fun g8 => (TW_on (sub_pick [0] (by decide) rfl) ?_)
        refine TW_two rfl rfl ?_ ?_
        · refine TL_callB [2, 3, 4, 5, 6, 7] [0, 1, 8, 9, 10] (by decide) rfl rfl (he2 EntersC.en rfl rfl rfl) (fun w hm hb => hI2 ⟨vc1, vr1, vfol1, vl1, vs1, F1⟩ hx1 w _ (rex_on (hm.pick [2, 3, 4, 5, 6, 7] (by decide) rfl) hkid2) hb) rfl rfl rfl ?_
          rintro ⟨⟨vc2, vr2, vfol2, vl2, vs2, F2⟩, va2, vb2⟩ hx2
          have hx2 : vs2.length = p2.follow.length := hx2
          conv => arg 8; simp only [zA, zB, zC, zD, zE, zF, zG, zH, zI, rowS, ret, id_eq, nodeSp, mkL]
          conv => arg 7; simp only [nodeSp]
          refine TW_on (sub_pick [0] (by decide) rfl) ?_
          refine TW_one rfl (TL_new rfl fun g7 => (TW_on (sub_pick [0] (by decide) rfl) ?_))
          refine TW_one rfl (TL_slv (i := 2) rfl fun _ qa1 => TL_slv (i := 3) rfl fun _ qb1 => TL_storeB (i := 13) (cs' := #[.bool e1, va1, vb1]) rfl rfl rfl rfl (by simp only [List.all_cons, List.all_nil, qa1, qb1]; rfl) rfl (TW_on (sub_pick [0] (by decide) rfl) ?_))
          repeat (first
            | ((first | refine TW_plain rfl rfl ?_ | refine TW_gmet rfl rfl rfl rfl ?_); first | refine TN_val (qp rfl) rfl rfl ?_ | refine TN_val (qlen Und.eq rfl) rfl rfl ?_ | refine TN_val (qfld FldC.fld rfl rfl) rfl rfl ?_ | refine TN_val (rr_nilc rfl) rfl rfl ?_ | refine TN_val (rr_eql rfl rfl (qT (by omega))) rfl rfl ?_ | refine TN_val (rr_eql rfl rfl (qF (by omega))) rfl rfl ?_)
            | refine TW_skip rfl rfl rfl rfl rfl rfl rfl ?_ | refine TW_done ?_)
          refine TW_one rfl (TL_slv (i := 11) rfl fun _ qa2 => TL_slv (i := 12) rfl fun _ qb2 => TL_storeB (i := 4) (cs' := #[.bool e2, va2, vb2]) rfl rfl rfl rfl (by simp only [List.all_cons, List.all_nil, qa2, qb2]; rfl) rfl (TW_on (sub_pick [0] (by decide) rfl) ?_))
          repeat (first
            | ((first | refine TW_plain rfl rfl ?_ | refine TW_gmet rfl rfl rfl rfl ?_); first | refine TN_val (qp rfl) rfl rfl ?_ | refine TN_val (qlen Und.eq rfl) rfl rfl ?_ | refine TN_val (qfld FldC.fld rfl rfl) rfl rfl ?_ | refine TN_val (rr_nilc rfl) rfl rfl ?_ | refine TN_val (rr_eql rfl rfl (qT (by omega))) rfl rfl ?_ | refine TN_val (rr_eql rfl rfl (qF (by omega))) rfl rfl ?_)
            | refine TW_skip rfl rfl rfl rfl rfl rfl rfl ?_ | refine TW_done ?_)
          refine E_pick [5, 6, 7, 8, 9, 10, 2, 3, 11, 12, 1, 13, 4] (by decide) rfl ?_
          exact E_mid (⟨vc2, vr2, vfol2, vl2, vs2, F2⟩, va1, vb1, va2, vb2, g7, g8) hx2 (by repeat' (first | exact True.intro | refine And.intro rfl ?_)) rfl
        · refine TL_new rfl fun g7 => (TW_on (sub_pick [0] (by decide) rfl) ?_)
          refine TW_one rfl (TL_callB [2, 3, 4, 5, 6, 7] [0, 1, 8, 9, 10, 11] (by decide) rfl rfl (he2 EntersC.en rfl rfl rfl) (fun w hm hb => hI2 ⟨vc1, vr1, vfol1, vl1, vs1, F1⟩ hx1 w _ (rex_on (hm.pick [2, 3, 4, 5, 6, 7] (by decide) rfl) hkid2) hb) rfl rfl rfl ?_)
          rintro ⟨⟨vc2, vr2, vfol2, vl2, vs2, F2⟩, va2, vb2⟩ hx2
          have hx2 : vs2.length = p2.follow.length := hx2
          conv => arg 8; simp only [zA, zB, zC, zD, zE, zF, zG, zH, zI, rowS, ret, id_eq, nodeSp, mkL]
          conv => arg 7; simp only [nodeSp]
          refine TW_on (sub_pick [0] (by decide) rfl) ?_
          refine TW_one rfl (TL_slv (i := 2) rfl fun _ qa1 => TL_slv (i := 3) rfl fun _ qb1 => TL_storeB (i := 5) (cs' := #[.bool e1, va1, vb1]) rfl rfl rfl rfl (by simp only [List.all_cons, List.all_nil, qa1, qb1]; rfl) rfl (TW_on (sub_pick [0] (by decide) rfl) ?_))
          repeat (first
            | ((first | refine TW_plain rfl rfl ?_ | refine TW_gmet rfl rfl rfl rfl ?_); first | refine TN_val (qp rfl) rfl rfl ?_ | refine TN_val (qlen Und.eq rfl) rfl rfl ?_ | refine TN_val (qfld FldC.fld rfl rfl) rfl rfl ?_ | refine TN_val (rr_nilc rfl) rfl rfl ?_ | refine TN_val (rr_eql rfl rfl (qT (by omega))) rfl rfl ?_ | refine TN_val (rr_eql rfl rfl (qF (by omega))) rfl rfl ?_)
            | refine TW_skip rfl rfl rfl rfl rfl rfl rfl ?_ | refine TW_done ?_)
          refine TW_one rfl (TL_slv (i := 12) rfl fun _ qa2 => TL_slv (i := 13) rfl fun _ qb2 => TL_storeB (i := 4) (cs' := #[.bool e2, va2, vb2]) rfl rfl rfl rfl (by simp only [List.all_cons, List.all_nil, qa2, qb2]; rfl) rfl (TW_on (sub_pick [0] (by decide) rfl) ?_))
          repeat (first
            | ((first | refine TW_plain rfl rfl ?_ | refine TW_gmet rfl rfl rfl rfl ?_); first | refine TN_val (qp rfl) rfl rfl ?_ | refine TN_val (qlen Und.eq rfl) rfl rfl ?_ | refine TN_val (qfld FldC.fld rfl rfl) rfl rfl ?_ | refine TN_val (rr_nilc rfl) rfl rfl ?_ | refine TN_val (rr_eql rfl rfl (qT (by omega))) rfl rfl ?_ | refine TN_val (rr_eql rfl rfl (qF (by omega))) rfl rfl ?_)
            | refine TW_skip rfl rfl rfl rfl rfl rfl rfl ?_ | refine TW_done ?_)
          refine E_pick [6, 7, 8, 9, 10, 11, 2, 3, 12, 13, 1, 5, 4] (by decide) rfl ?_
          exact E_mid (⟨vc2, vr2, vfol2, vl2, vs2, F2⟩, va1, vb1, va2, vb2, g7, g8) hx2 (by repeat' (first | exact True.intro | refine And.intro rfl ?_)) rfl
    · refine TL_new rfl fun g7 => (TW_on (sub_pick [6] (by decide) rfl) ?_)
      refine TW_two rfl rfl ?_ ?_
      · refine TL_callB [0, 1, 2, 3, 4, 5] [6, 7, 8] (by decide) rfl rfl (he2 EntersC.en rfl rfl rfl) (fun w hm hb => hI1 w _ (rex_on (hm.pick [0, 1, 2, 3, 4, 5] (by decide) rfl) hkid1) hb) rfl rfl rfl ?_
        rintro ⟨⟨vc1, vr1, vfol1, vl1, vs1, F1⟩, va1, vb1⟩ hx1
        have hx1 : vs1.length = p1.follow.length := hx1
        conv => arg 8; simp only [zA, zB, zC, zD, zE, zF, zG, zH, zI, rowS, ret, id_eq, nodeSp, mkL]
        conv => arg 7; simp only [nodeSp]
        refine TW_on (sub_pick [0] (by decide) rfl) ?_
        refine TW_two rfl rfl ?_ ?_
        · refine TL_callB [3, 4, 5, 6, 7, 8] [0, 1, 2, 9, 10] (by decide) rfl rfl (he2 EntersC.en rfl rfl rfl) (fun w hm hb => hI2 ⟨vc1, vr1, vfol1, vl1, vs1, F1⟩ hx1 w _ (rex_on (hm.pick [3, 4, 5, 6, 7, 8] (by decide) rfl) hkid2) hb) rfl rfl rfl ?_
          rintro ⟨⟨vc2, vr2, vfol2, vl2, vs2, F2⟩, va2, vb2⟩ hx2
          have hx2 : vs2.length = p2.follow.length := hx2
          conv => arg 8; simp only [zA, zB, zC, zD, zE, zF, zG, zH, zI, rowS, ret, id_eq, nodeSp, mkL]
          conv => arg 7; simp only [nodeSp]
          refine TW_on (sub_pick [0] (by decide) rfl) ?_
          refine TW_one rfl (TL_new rfl fun g8 => (TW_on (sub_pick [0] (by decide) rfl) ?_))
          refine TW_one rfl (TL_slv (i := 3) rfl fun _ qa1 => TL_slv (i := 4) rfl fun _ qb1 => TL_storeB (i := 2) (cs' := #[.bool e1, va1, vb1]) rfl rfl rfl rfl (by simp only [List.all_cons, List.all_nil, qa1, qb1]; rfl) rfl (TW_on (sub_pick [0] (by decide) rfl) ?_))
          repeat (first
            | ((first | refine TW_plain rfl rfl ?_ | refine TW_gmet rfl rfl rfl rfl ?_); first | refine TN_val (qp rfl) rfl rfl ?_ | refine TN_val (qlen Und.eq rfl) rfl rfl ?_ | refine TN_val (qfld FldC.fld rfl rfl) rfl rfl ?_ | refine TN_val (rr_nilc rfl) rfl rfl ?_ | refine TN_val (rr_eql rfl rfl (qT (by omega))) rfl rfl ?_ | refine TN_val (rr_eql rfl rfl (qF (by omega))) rfl rfl ?_)
            | refine TW_skip rfl rfl rfl rfl rfl rfl rfl ?_ | refine TW_done ?_)
          refine TW_one rfl (TL_slv (i := 11) rfl fun _ qa2 => TL_slv (i := 12) rfl fun _ qb2 => TL_storeB (i := 13) (cs' := #[.bool e2, va2, vb2]) rfl rfl rfl rfl (by simp only [List.all_cons, List.all_nil, qa2, qb2]; rfl) rfl (TW_on (sub_pick [0] (by decide) rfl) ?_))
          repeat (first
            | ((first | refine TW_plain rfl rfl ?_ | refine TW_gmet rfl rfl rfl rfl ?_); first | refine TN_val (qp rfl) rfl rfl ?_ | refine TN_val (qlen Und.eq rfl) rfl rfl ?_ | refine TN_val (qfld FldC.fld rfl rfl) rfl rfl ?_ | refine TN_val (rr_nilc rfl) rfl rfl ?_ | refine TN_val (rr_eql rfl rfl (qT (by omega))) rfl rfl ?_ | refine TN_val (rr_eql rfl rfl (qF (by omega))) rfl rfl ?_)
            | refine TW_skip rfl rfl rfl rfl rfl rfl rfl ?_ | refine TW_done ?_)
          refine E_pick [5, 6, 7, 8, 9, 10, 3, 4, 11, 12, 1, 2, 13] (by decide) rfl ?_
          exact E_mid (⟨vc2, vr2, vfol2, vl2, vs2, F2⟩, va1, vb1, va2, vb2, g7, g8) hx2 (by repeat' (first | exact True.intro | refine And.intro rfl ?_)) rfl
        · refine TL_new rfl fun g8 => (TW_on (sub_pick [0] (by decide) rfl) ?_)
          refine TW_one rfl (TL_callB [3, 4, 5, 6, 7, 8] [0, 1, 2, 9, 10, 11] (by decide) rfl rfl (he2 EntersC.en rfl rfl rfl) (fun w hm hb => hI2 ⟨vc1, vr1, vfol1, vl1, vs1, F1⟩ hx1 w _ (rex_on (hm.pick [3, 4, 5, 6, 7, 8] (by decide) rfl) hkid2) hb) rfl rfl rfl ?_)
          rintro ⟨⟨vc2, vr2, vfol2, vl2, vs2, F2⟩, va2, vb2⟩ hx2
          have hx2 : vs2.length = p2.follow.length := hx2
          conv => arg 8; simp only [zA, zB, zC, zD, zE, zF, zG, zH, zI, rowS, ret, id_eq, nodeSp, mkL]
          conv => arg 7; simp only [nodeSp]
          refine TW_on (sub_pick [0] (by decide) rfl) ?_
          refine TW_one rfl (TL_slv (i := 3) rfl fun _ qa1 => TL_slv (i := 4) rfl fun _ qb1 => TL_storeB (i := 2) (cs' := #[.bool e1, va1, vb1]) rfl rfl rfl rfl (by simp only [List.all_cons, List.all_nil, qa1, qb1]; rfl) rfl (TW_on (sub_pick [0] (by decide) rfl) ?_))
          repeat (first
            | ((first | refine TW_plain rfl rfl ?_ | refine TW_gmet rfl rfl rfl rfl ?_); first | refine TN_val (qp rfl) rfl rfl ?_ | refine TN_val (qlen Und.eq rfl) rfl rfl ?_ | refine TN_val (qfld FldC.fld rfl rfl) rfl rfl ?_ | refine TN_val (rr_nilc rfl) rfl rfl ?_ | refine TN_val (rr_eql rfl rfl (qT (by omega))) rfl rfl ?_ | refine TN_val (rr_eql rfl rfl (qF (by omega))) rfl rfl ?_)
            | refine TW_skip rfl rfl rfl rfl rfl rfl rfl ?_ | refine TW_done ?_)
          refine TW_one rfl (TL_slv (i := 12) rfl fun _ qa2 => TL_slv (i := 13) rfl fun _ qb2 => TL_storeB (i := 5) (cs' := #[.bool e2, va2, vb2]) rfl rfl rfl rfl (by simp only [List.all_cons, List.all_nil, qa2, qb2]; rfl) rfl (TW_on (sub_pick [0] (by decide) rfl) ?_))
          repeat (first
            | ((first | refine TW_plain rfl rfl ?_ | refine TW_gmet rfl rfl rfl rfl ?_); first | refine TN_val (qp rfl) rfl rfl ?_ | refine TN_val (qlen Und.eq rfl) rfl rfl ?_ | refine TN_val (qfld FldC.fld rfl rfl) rfl rfl ?_ | refine TN_val (rr_nilc rfl) rfl rfl ?_ | refine TN_val (rr_eql rfl rfl (qT (by omega))) rfl rfl ?_ | refine TN_val (rr_eql rfl rfl (qF (by omega))) rfl rfl ?_)
            | refine TW_skip rfl rfl rfl rfl rfl rfl rfl ?_ | refine TW_done ?_)
          refine E_pick [6, 7, 8, 9, 10, 11, 3, 4, 12, 13, 1, 2, 5] (by decide) rfl ?_
          exact E_mid (⟨vc2, vr2, vfol2, vl2, vs2, F2⟩, va1, vb1, va2, vb2, g7, g8) hx2 (by repeat' (first | exact True.intro | refine And.intro rfl ?_)) rfl
      · refine TL_new rfl fun g8 => (TW_on (sub_pick [6] (by decide) rfl) ?_)
        refine TW_one rfl (TL_callB [0, 1, 2, 3, 4, 5] [6, 7, 8, 9] (by decide) rfl rfl (he2 EntersC.en rfl rfl rfl) (fun w hm hb => hI1 w _ (rex_on (hm.pick [0, 1, 2, 3, 4, 5] (by decide) rfl) hkid1) hb) rfl rfl rfl ?_)
        rintro ⟨⟨vc1, vr1, vfol1, vl1, vs1, F1⟩, va1, vb1⟩ hx1
        have hx1 : vs1.length = p1.follow.length := hx1
        conv => arg 8; simp only [zA, zB, zC, zD, zE, zF, zG, zH, zI, rowS, ret, id_eq, nodeSp, mkL]
        conv => arg 7; simp only [nodeSp]
        refine TW_on (sub_pick [0] (by decide) rfl) ?_
        refine TW_one rfl (TL_callB [4, 5, 6, 7, 8, 9] [0, 1, 2, 3, 10, 11] (by decide) rfl rfl (he2 EntersC.en rfl rfl rfl) (fun w hm hb => hI2 ⟨vc1, vr1, vfol1, vl1, vs1, F1⟩ hx1 w _ (rex_on (hm.pick [4, 5, 6, 7, 8, 9] (by decide) rfl) hkid2) hb) rfl rfl rfl ?_)
        rintro ⟨⟨vc2, vr2, vfol2, vl2, vs2, F2⟩, va2, vb2⟩ hx2
        have hx2 : vs2.length = p2.follow.length := hx2
        conv => arg 8; simp only [zA, zB, zC, zD, zE, zF, zG, zH, zI, rowS, ret, id_eq, nodeSp, mkL]
        conv => arg 7; simp only [nodeSp]
        refine TW_on (sub_pick [0] (by decide) rfl) ?_
        refine TW_one rfl (TL_slv (i := 4) rfl fun _ qa1 => TL_slv (i := 5) rfl fun _ qb1 => TL_storeB (i := 2) (cs' := #[.bool e1, va1, vb1]) rfl rfl rfl rfl (by simp only [List.all_cons, List.all_nil, qa1, qb1]; rfl) rfl (TW_on (sub_pick [0] (by decide) rfl) ?_))
        repeat (first
          | ((first | refine TW_plain rfl rfl ?_ | refine TW_gmet rfl rfl rfl rfl ?_); first | refine TN_val (qp rfl) rfl rfl ?_ | refine TN_val (qlen Und.eq rfl) rfl rfl ?_ | refine TN_val (qfld FldC.fld rfl rfl) rfl rfl ?_ | refine TN_val (rr_nilc rfl) rfl rfl ?_ | refine TN_val (rr_eql rfl rfl (qT (by omega))) rfl rfl ?_ | refine TN_val (rr_eql rfl rfl (qF (by omega))) rfl rfl ?_)
          | refine TW_skip rfl rfl rfl rfl rfl rfl rfl ?_ | refine TW_done ?_)
        refine TW_one rfl (TL_slv (i := 12) rfl fun _ qa2 => TL_slv (i := 13) rfl fun _ qb2 => TL_storeB (i := 3) (cs' := #[.bool e2, va2, vb2]) rfl rfl rfl rfl (by simp only [List.all_cons, List.all_nil, qa2, qb2]; rfl) rfl (TW_on (sub_pick [0] (by decide) rfl) ?_))
        repeat (first
          | ((first | refine TW_plain rfl rfl ?_ | refine TW_gmet rfl rfl rfl rfl ?_); first | refine TN_val (qp rfl) rfl rfl ?_ | refine TN_val (qlen Und.eq rfl) rfl rfl ?_ | refine TN_val (qfld FldC.fld rfl rfl) rfl rfl ?_ | refine TN_val (rr_nilc rfl) rfl rfl ?_ | refine TN_val (rr_eql rfl rfl (qT (by omega))) rfl rfl ?_ | refine TN_val (rr_eql rfl rfl (qF (by omega))) rfl rfl ?_)
          | refine TW_skip rfl rfl rfl rfl rfl rfl rfl ?_ | refine TW_done ?_)
        refine E_pick [6, 7, 8, 9, 10, 11, 4, 5, 12, 13, 1, 2, 3] (by decide) rfl ?_
        exact E_mid (⟨vc2, vr2, vfol2, vl2, vs2, F2⟩, va1, vb1, va2, vb2, g7, g8) hx2 (by repeat' (first | exact True.intro | refine And.intro rfl ?_)) rfl
    · refine TL_new rfl fun g8 => (TW_on (sub_pick [6] (by decide) rfl) ?_)
      refine TW_two rfl rfl ?_ ?_
      · refine TL_callB [0, 1, 2, 3, 4, 5] [6, 7, 8] (by decide) rfl rfl (he2 EntersC.en rfl rfl rfl) (fun w hm hb => hI1 w _ (rex_on (hm.pick [0, 1, 2, 3, 4, 5] (by decide) rfl) hkid1) hb) rfl rfl rfl ?_
        rintro ⟨⟨vc1, vr1, vfol1, vl1, vs1, F1⟩, va1, vb1⟩ hx1
        have hx1 : vs1.length = p1.follow.length := hx1
        conv => arg 8; simp only [zA, zB, zC, zD, zE, zF, zG, zH, zI, rowS, ret, id_eq, nodeSp, mkL]
        conv => arg 7; simp only [nodeSp]
        refine TW_on (sub_pick [0] (by decide) rfl) ?_
        refine TW_two rfl rfl ?_ ?_
        · refine TL_callB [3, 4, 5, 6, 7, 8] [0, 1, 2, 9, 10] (by decide) rfl rfl (he2 EntersC.en rfl rfl rfl) (fun w hm hb => hI2 ⟨vc1, vr1, vfol1, vl1, vs1, F1⟩ hx1 w _ (rex_on (hm.pick [3, 4, 5, 6, 7, 8] (by decide) rfl) hkid2) hb) rfl rfl rfl ?_
          rintro ⟨⟨vc2, vr2, vfol2, vl2, vs2, F2⟩, va2, vb2⟩ hx2
          have hx2 : vs2.length = p2.follow.length := hx2
          conv => arg 8; simp only [zA, zB, zC, zD, zE, zF, zG, zH, zI, rowS, ret, id_eq, nodeSp, mkL]
          conv => arg 7; simp only [nodeSp]
          refine TW_on (sub_pick [0] (by decide) rfl) ?_
          refine TW_one rfl (TL_new rfl fun g7 => (TW_on (sub_pick [0] (by decide) rfl) ?_))
          refine TW_one rfl (TL_slv (i := 3) rfl fun _ qa1 => TL_slv (i := 4) rfl fun _ qb1 => TL_storeB (i := 13) (cs' := #[.bool e1, va1, vb1]) rfl rfl rfl rfl (by simp only [List.all_cons, List.all_nil, qa1, qb1]; rfl) rfl (TW_on (sub_pick [0] (by decide) rfl) ?_))
          repeat (first
            | ((first | refine TW_plain rfl rfl ?_ | refine TW_gmet rfl rfl rfl rfl ?_); first | refine TN_val (qp rfl) rfl rfl ?_ | refine TN_val (qlen Und.eq rfl) rfl rfl ?_ | refine TN_val (qfld FldC.fld rfl rfl) rfl rfl ?_ | refine TN_val (rr_nilc rfl) rfl rfl ?_ | refine TN_val (rr_eql rfl rfl (qT (by omega))) rfl rfl ?_ | refine TN_val (rr_eql rfl rfl (qF (by omega))) rfl rfl ?_)
            | refine TW_skip rfl rfl rfl rfl rfl rfl rfl ?_ | refine TW_done ?_)
          refine TW_one rfl (TL_slv (i := 11) rfl fun _ qa2 => TL_slv (i := 12) rfl fun _ qb2 => TL_storeB (i := 2) (cs' := #[.bool e2, va2, vb2]) rfl rfl rfl rfl (by simp only [List.all_cons, List.all_nil, qa2, qb2]; rfl) rfl (TW_on (sub_pick [0] (by decide) rfl) ?_))
          repeat (first
            | ((first | refine TW_plain rfl rfl ?_ | refine TW_gmet rfl rfl rfl rfl ?_); first | refine TN_val (qp rfl) rfl rfl ?_ | refine TN_val (qlen Und.eq rfl) rfl rfl ?_ | refine TN_val (qfld FldC.fld rfl rfl) rfl rfl ?_ | refine TN_val (rr_nilc rfl) rfl rfl ?_ | refine TN_val (rr_eql rfl rfl (qT (by omega))) rfl rfl ?_ | refine TN_val (rr_eql rfl rfl (qF (by omega))) rfl rfl ?_)
            | refine TW_skip rfl rfl rfl rfl rfl rfl rfl ?_ | refine TW_done ?_)
          refine E_pick [5, 6, 7, 8, 9, 10, 3, 4, 11, 12, 1, 13, 2] (by decide) rfl ?_
          exact E_mid (⟨vc2, vr2, vfol2, vl2, vs2, F2⟩, va1, vb1, va2, vb2, g7, g8) hx2 (by repeat' (first | exact True.intro | refine And.intro rfl ?_)) rfl
        · refine TL_new rfl fun g7 => (TW_on (sub_pick [0] (by decide) rfl) ?_)
          refine TW_one rfl (TL_callB [3, 4, 5, 6, 7, 8] [0, 1, 2, 9, 10, 11] (by decide) rfl rfl (he2 EntersC.en rfl rfl rfl) (fun w hm hb => hI2 ⟨vc1, vr1, vfol1, vl1, vs1, F1⟩ hx1 w _ (rex_on (hm.pick [3, 4, 5, 6, 7, 8] (by decide) rfl) hkid2) hb) rfl rfl rfl ?_)
          rintro ⟨⟨vc2, vr2, vfol2, vl2, vs2, F2⟩, va2, vb2⟩ hx2
          have hx2 : vs2.length = p2.follow.length := hx2
          conv => arg 8; simp only [zA, zB, zC, zD, zE, zF, zG, zH, zI, rowS, ret, id_eq, nodeSp, mkL]
          conv => arg 7; simp only [nodeSp]
          refine TW_on (sub_pick [0] (by decide) rfl) ?_
          refine TW_one rfl (TL_slv (i := 3) rfl fun _ qa1 => TL_slv (i := 4) rfl fun _ qb1 => TL_storeB (i := 5) (cs' := #[.bool e1, va1, vb1]) rfl rfl rfl rfl (by simp only [List.all_cons, List.all_nil, qa1, qb1]; rfl) rfl (TW_on (sub_pick [0] (by decide) rfl) ?_))
          repeat (first
            | ((first | refine TW_plain rfl rfl ?_ | refine TW_gmet rfl rfl rfl rfl ?_); first | refine TN_val (qp rfl) rfl rfl ?_ | refine TN_val (qlen Und.eq rfl) rfl rfl ?_ | refine TN_val (qfld FldC.fld rfl rfl) rfl rfl ?_ | refine TN_val (rr_nilc rfl) rfl rfl ?_ | refine TN_val (rr_eql rfl rfl (qT (by omega))) rfl rfl ?_ | refine TN_val (rr_eql rfl rfl (qF (by omega))) rfl rfl ?_)
            | refine TW_skip rfl rfl rfl rfl rfl rfl rfl ?_ | refine TW_done ?_)
          refine TW_one rfl (TL_slv (i := 12) rfl fun _ qa2 => TL_slv (i := 13) rfl fun _ qb2 => TL_storeB (i := 2) (cs' := #[.bool e2, va2, vb2]) rfl rfl rfl rfl (by simp only [List.all_cons, List.all_nil, qa2, qb2]; rfl) rfl (TW_on (sub_pick [0] (by decide) rfl) ?_))
          repeat (first
            | ((first | refine TW_plain rfl rfl ?_ | refine TW_gmet rfl rfl rfl rfl ?_); first | refine TN_val (qp rfl) rfl rfl ?_ | refine TN_val (qlen Und.eq rfl) rfl rfl ?_ | refine TN_val (qfld FldC.fld rfl rfl) rfl rfl ?_ | refine TN_val (rr_nilc rfl) rfl rfl ?_ | refine TN_val (rr_eql rfl rfl (qT (by omega))) rfl rfl ?_ | refine TN_val (rr_eql rfl rfl (qF (by omega))) rfl rfl ?_)
            | refine TW_skip rfl rfl rfl rfl rfl rfl rfl ?_ | refine TW_done ?_)
          refine E_pick [6, 7, 8, 9, 10, 11, 3, 4, 12, 13, 1, 5, 2] (by decide) rfl ?_
          exact E_mid (⟨vc2, vr2, vfol2, vl2, vs2, F2⟩, va1, vb1, va2, vb2, g7, g8) hx2 (by repeat' (first | exact True.intro | refine And.intro rfl ?_)) rfl
      · refine TL_new rfl fun g7 => (TW_on (sub_pick [6] (by decide) rfl) ?_)
        refine TW_one rfl (TL_callB [0, 1, 2, 3, 4, 5] [6, 7, 8, 9] (by decide) rfl rfl (he2 EntersC.en rfl rfl rfl) (fun w hm hb => hI1 w _ (rex_on (hm.pick [0, 1, 2, 3, 4, 5] (by decide) rfl) hkid1) hb) rfl rfl rfl ?_)
        rintro ⟨⟨vc1, vr1, vfol1, vl1, vs1, F1⟩, va1, vb1⟩ hx1
        have hx1 : vs1.length = p1.follow.length := hx1
        conv => arg 8; simp only [zA, zB, zC, zD, zE, zF, zG, zH, zI, rowS, ret, id_eq, nodeSp, mkL]
        conv => arg 7; simp only [nodeSp]
        refine TW_on (sub_pick [0] (by decide) rfl) ?_
        refine TW_one rfl (TL_callB [4, 5, 6, 7, 8, 9] [0, 1, 2, 3, 10, 11] (by decide) rfl rfl (he2 EntersC.en rfl rfl rfl) (fun w hm hb => hI2 ⟨vc1, vr1, vfol1, vl1, vs1, F1⟩ hx1 w _ (rex_on (hm.pick [4, 5, 6, 7, 8, 9] (by decide) rfl) hkid2) hb) rfl rfl rfl ?_)
        rintro ⟨⟨vc2, vr2, vfol2, vl2, vs2, F2⟩, va2, vb2⟩ hx2
        have hx2 : vs2.length = p2.follow.length := hx2
        conv => arg 8; simp only [zA, zB, zC, zD, zE, zF, zG, zH, zI, rowS, ret, id_eq, nodeSp, mkL]
        conv => arg 7; simp only [nodeSp]
        refine TW_on (sub_pick [0] (by decide) rfl) ?_
        refine TW_one rfl (TL_slv (i := 4) rfl fun _ qa1 => TL_slv (i := 5) rfl fun _ qb1 => TL_storeB (i := 3) (cs' := #[.bool e1, va1, vb1]) rfl rfl rfl rfl (by simp only [List.all_cons, List.all_nil, qa1, qb1]; rfl) rfl (TW_on (sub_pick [0] (by decide) rfl) ?_))
        repeat (first
          | ((first | refine TW_plain rfl rfl ?_ | refine TW_gmet rfl rfl rfl rfl ?_); first | refine TN_val (qp rfl) rfl rfl ?_ | refine TN_val (qlen Und.eq rfl) rfl rfl ?_ | refine TN_val (qfld FldC.fld rfl rfl) rfl rfl ?_ | refine TN_val (rr_nilc rfl) rfl rfl ?_ | refine TN_val (rr_eql rfl rfl (qT (by omega))) rfl rfl ?_ | refine TN_val (rr_eql rfl rfl (qF (by omega))) rfl rfl ?_)
          | refine TW_skip rfl rfl rfl rfl rfl rfl rfl ?_ | refine TW_done ?_)
        refine TW_one rfl (TL_slv (i := 12) rfl fun _ qa2 => TL_slv (i := 13) rfl fun _ qb2 => TL_storeB (i := 2) (cs' := #[.bool e2, va2, vb2]) rfl rfl rfl rfl (by simp only [List.all_cons, List.all_nil, qa2, qb2]; rfl) rfl (TW_on (sub_pick [0] (by decide) rfl) ?_))
        repeat (first
          | ((first | refine TW_plain rfl rfl ?_ | refine TW_gmet rfl rfl rfl rfl ?_); first | refine TN_val (qp rfl) rfl rfl ?_ | refine TN_val (qlen Und.eq rfl) rfl rfl ?_ | refine TN_val (qfld FldC.fld rfl rfl) rfl rfl ?_ | refine TN_val (rr_nilc rfl) rfl rfl ?_ | refine TN_val (rr_eql rfl rfl (qT (by omega))) rfl rfl ?_ | refine TN_val (rr_eql rfl rfl (qF (by omega))) rfl rfl ?_)
          | refine TW_skip rfl rfl rfl rfl rfl rfl rfl ?_ | refine TW_done ?_)
        refine E_pick [6, 7, 8, 9, 10, 11, 4, 5, 12, 13, 1, 3, 2] (by decide) rfl ?_
        exact E_mid (⟨vc2, vr2, vfol2, vl2, vs2, F2⟩, va1, vb1, va2, vb2, g7, g8) hx2 (by repeat' (first | exact True.intro | refine And.intro rfl ?_)) rfl
  clear hI1 hI2 hat1 hat2
  rintro ⟨⟨vc, vr, vfol, vl, vs, F⟩, va1, vb1, va2, vb2, g7, g8⟩ hx2
  have hx2 : vs.length = p2.follow.length := hx2
  dsimp only
  conv => arg 7; simp only [zA, zB, zC, zD, zE, zF, zG, zH, zI, rowS, ret, id_eq, mkL]
  have hl1 := ris_len hp4
  have hl2 := ris_len hp5
  have hl3 := ris_len kp4
  have hl4 := ris_len kp5
  cases e1 with
  | true =>
    (repeat refine T_seq ?_)
    refine T_ord ([blkO g7 #[.bool true, va1, vb1] 55, blkO g8 #[.bool e2, va2, vb2] 55]) (.calm 0 (.calm 1 (.calm 2 (.calm 3 (.calm 4 (.calm 5 (.calm 6 (.calm 7 (.calm 8 (.calm 9 (.calm 11 (.calm 12 (.calm 13 (.calm 14 (.one 10 (.one 15 (.calm 16 (.one 17 (.done))))))))))))))))))) (sub_pick [11, 12] (by decide) rfl) (by kernel_rfl) (by kernel_rfl) (by intro c a d v w h; cases d <;> exact h) ?_
    repeat (first
      | ((first | refine TW_plain rfl rfl ?_ | refine TW_gmet rfl rfl rfl rfl ?_); first | refine TN_val (qp rfl) rfl rfl ?_ | refine TN_val (rr_load1 TyC.ty rfl (at_blk (i := 0) rfl rfl)) rfl rfl ?_ | refine TN_val (rr_load1 TyC.ty rfl (at_blk (i := 1) rfl rfl)) rfl rfl ?_ | refine TN_val (qlen Und.eq rfl) rfl rfl ?_ | refine TN_val (qfld FldC.fld rfl rfl) rfl rfl ?_ | refine TN_val (rr_nilc rfl) rfl rfl ?_ | refine TN_val (rr_eql rfl rfl (qT (by omega))) rfl rfl ?_ | refine TN_val (rr_eql rfl rfl (qF (by omega))) rfl rfl ?_)
      | refine TW_skip rfl rfl rfl rfl rfl rfl rfl ?_ | refine TW_done ?_)
    refine TW_one rfl (TL_call (he2 EntersC.en rfl rfl rfl) (fun w' hm => union_calls va1 va2 first1 first2 w' (Sl.of_own (hm.get (i := 6) rfl)) (Sl.of_own (hm.get (i := 8) rfl)) (by omega) (by omega)) rfl rfl rfl ?_)
    intro vu _
    conv => arg 8; simp only [zA, zB, zC, zD, zE, zF, zG, zH, zI, rowS, ret, id_eq, intRS]
    refine TW_on (sub_pick [11, 12] (by decide) rfl) ?_
    repeat (first
      | ((first | refine TW_plain rfl rfl ?_ | refine TW_gmet rfl rfl rfl rfl ?_); first | refine TN_val (qp rfl) rfl rfl ?_ | refine TN_val (qlen Und.eq rfl) rfl rfl ?_ | refine TN_val (qfld FldC.fld rfl rfl) rfl rfl ?_ | refine TN_val (rr_nilc rfl) rfl rfl ?_ | refine TN_val (rr_eql rfl rfl (qT (by omega))) rfl rfl ?_ | refine TN_val (rr_eql rfl rfl (qF (by omega))) rfl rfl ?_)
      | refine TW_skip rfl rfl rfl rfl rfl rfl rfl ?_ | refine TW_done ?_)
    refine TW_one rfl (TL_call (he2 EntersC.en rfl rfl rfl) (fun w' hm => union_calls vb1 vb2 last1 last2 w' (Sl.of_own (hm.get (i := 7) rfl)) (Sl.of_own (hm.get (i := 9) rfl)) (by omega) (by omega)) rfl rfl rfl ?_)
    intro vu2 _
    conv => arg 8; simp only [zA, zB, zC, zD, zE, zF, zG, zH, zI, rowS, ret, id_eq, intRS]
    refine TL_rowv (i := 13) rfl fun bu cu hu _ _ => ?_
    refine TL_rowv (i := 14) rfl fun bu2 cu2 hu2 _ _ => ?_
    subst hu hu2
    refine TW_on (sub_pick [11, 12] (by decide) rfl) ?_
    repeat (first
      | ((first | refine TW_plain rfl rfl ?_ | refine TW_gmet rfl rfl rfl rfl ?_); first | refine TN_val (qp rfl) rfl rfl ?_ | refine TN_val (rr_build rfl (build_shpA _ _ _ _ _ _ _)) rfl rfl ?_ | refine TN_val (qlen Und.eq rfl) rfl rfl ?_ | refine TN_val (qfld FldC.fld rfl rfl) rfl rfl ?_ | refine TN_val (rr_nilc rfl) rfl rfl ?_ | refine TN_val (rr_eql rfl rfl (qT (by omega))) rfl rfl ?_ | refine TN_val (rr_eql rfl rfl (qF (by omega))) rfl rfl ?_)
      | refine TW_skip rfl rfl rfl rfl rfl rfl rfl ?_ | refine TW_done ?_)
    refine TW_one rfl (TL_storeB (i := 10) (cs' := #[.bool true, .slice bu (uni first1 first2).length cu, .slice bu2 (uni last1 last2).length cu2]) rfl rfl rfl rfl rfl rfl (TW_on (sub_pick [11, 12] (by decide) rfl) ?_))
    repeat (first
      | ((first | refine TW_plain rfl rfl ?_ | refine TW_gmet rfl rfl rfl rfl ?_); first | refine TN_val (qp rfl) rfl rfl ?_ | refine TN_val (qlen Und.eq rfl) rfl rfl ?_ | refine TN_val (qfld FldC.fld rfl rfl) rfl rfl ?_ | refine TN_val (rr_nilc rfl) rfl rfl ?_ | refine TN_val (rr_eql rfl rfl (qT (by omega))) rfl rfl ?_ | refine TN_val (rr_eql rfl rfl (qF (by omega))) rfl rfl ?_)
      | refine TW_skip rfl rfl rfl rfl rfl rfl rfl ?_ | refine TW_done ?_)
    repeat (first
      | refine qv rfl (qp rfl) rfl rfl ?_ | refine TL_nil ?_ | refine T_seq ?_ | refine T_region ?_ | refine qcT rfl ?_ | refine qcF rfl ?_ | refine T_skip ?_
      | refine T_ret ?_ | refine T_block ?_ | refine E_then ?_ | refine E_thenR ?_ | refine E_blockN ?_ | refine E_blockR ?_
      | refine qs rfl rfl rfl rfl rfl rfl ?_
      | ((try refine qg rfl rfl rfl ?_); first | refine qv rfl (qp rfl) rfl rfl ?_ | refine qv rfl (qlen Und.eq rfl) rfl rfl ?_ | refine qv rfl (qfld FldC.fld rfl rfl) rfl rfl ?_ | refine qv rfl (rr_nilc rfl) rfl rfl ?_ | refine qv rfl (rr_eql rfl rfl (qT (by omega))) rfl rfl ?_ | refine qv rfl (rr_eql rfl rfl (qF (by omega))) rfl rfl ?_))
    refine E_retc1 (i := 10) rfl rfl rfl rfl fun w hm => ?_
    exact hm.meetsB (S := nodeSp g vf ve rule (⟨true || e2, uni first1 first2, uni last1 last2⟩, p2)) (⟨vc, vr, vfol, vl, vs, F⟩, .slice bu (uni first1 first2).length cu, .slice bu2 (uni last1 last2).length cu2) hx2 [0, 1, 2, 3, 4, 5, 13, 14] (by decide) rfl
  | false =>
    (repeat refine T_seq ?_)
    refine T_ord ([blkO g7 #[.bool false, va1, vb1] 55, blkO g8 #[.bool e2, va2, vb2] 55]) (.calm 0 (.calm 1 (.calm 2 (.calm 3 (.calm 4 (.calm 5 (.calm 6 (.calm 7 (.calm 8 (.calm 9 (.calm 11 (.calm 12 (.calm 13 (.calm 14 (.one 10 (.one 15 (.calm 16 (.one 17 (.done))))))))))))))))))) (sub_pick [11, 12] (by decide) rfl) (by kernel_rfl) (by kernel_rfl) (by intro c a d v w h; cases d <;> exact h) ?_
    repeat (first
      | ((first | refine TW_plain rfl rfl ?_ | refine TW_gmet rfl rfl rfl rfl ?_); first | refine TN_val (qp rfl) rfl rfl ?_ | refine TN_val (rr_load1 TyC.ty rfl (at_blk (i := 0) rfl rfl)) rfl rfl ?_ | refine TN_val (rr_load1 TyC.ty rfl (at_blk (i := 1) rfl rfl)) rfl rfl ?_ | refine TN_val (qlen Und.eq rfl) rfl rfl ?_ | refine TN_val (qfld FldC.fld rfl rfl) rfl rfl ?_ | refine TN_val (rr_nilc rfl) rfl rfl ?_ | refine TN_val (rr_eql rfl rfl (qT (by omega))) rfl rfl ?_ | refine TN_val (rr_eql rfl rfl (qF (by omega))) rfl rfl ?_)
      | refine TW_skip rfl rfl rfl rfl rfl rfl rfl ?_ | refine TW_done ?_)
    refine TW_one rfl (TL_call (he2 EntersC.en rfl rfl rfl) (fun w' hm => union_calls va1 va2 first1 first2 w' (Sl.of_own (hm.get (i := 6) rfl)) (Sl.of_own (hm.get (i := 8) rfl)) (by omega) (by omega)) rfl rfl rfl ?_)
    intro vu _
    conv => arg 8; simp only [zA, zB, zC, zD, zE, zF, zG, zH, zI, rowS, ret, id_eq, intRS]
    refine TW_on (sub_pick [11, 12] (by decide) rfl) ?_
    repeat (first
      | ((first | refine TW_plain rfl rfl ?_ | refine TW_gmet rfl rfl rfl rfl ?_); first | refine TN_val (qp rfl) rfl rfl ?_ | refine TN_val (qlen Und.eq rfl) rfl rfl ?_ | refine TN_val (qfld FldC.fld rfl rfl) rfl rfl ?_ | refine TN_val (rr_nilc rfl) rfl rfl ?_ | refine TN_val (rr_eql rfl rfl (qT (by omega))) rfl rfl ?_ | refine TN_val (rr_eql rfl rfl (qF (by omega))) rfl rfl ?_)
      | refine TW_skip rfl rfl rfl rfl rfl rfl rfl ?_ | refine TW_done ?_)
    refine TW_one rfl (TL_call (he2 EntersC.en rfl rfl rfl) (fun w' hm => union_calls vb1 vb2 last1 last2 w' (Sl.of_own (hm.get (i := 7) rfl)) (Sl.of_own (hm.get (i := 9) rfl)) (by omega) (by omega)) rfl rfl rfl ?_)
    intro vu2 _
    conv => arg 8; simp only [zA, zB, zC, zD, zE, zF, zG, zH, zI, rowS, ret, id_eq, intRS]
    refine TL_rowv (i := 13) rfl fun bu cu hu _ _ => ?_
    refine TL_rowv (i := 14) rfl fun bu2 cu2 hu2 _ _ => ?_
    subst hu hu2
    refine TW_on (sub_pick [11, 12] (by decide) rfl) ?_
    repeat (first
      | ((first | refine TW_plain rfl rfl ?_ | refine TW_gmet rfl rfl rfl rfl ?_); first | refine TN_val (qp rfl) rfl rfl ?_ | refine TN_val (rr_build rfl (build_shpA _ _ _ _ _ _ _)) rfl rfl ?_ | refine TN_val (qlen Und.eq rfl) rfl rfl ?_ | refine TN_val (qfld FldC.fld rfl rfl) rfl rfl ?_ | refine TN_val (rr_nilc rfl) rfl rfl ?_ | refine TN_val (rr_eql rfl rfl (qT (by omega))) rfl rfl ?_ | refine TN_val (rr_eql rfl rfl (qF (by omega))) rfl rfl ?_)
      | refine TW_skip rfl rfl rfl rfl rfl rfl rfl ?_ | refine TW_done ?_)
    refine TW_one rfl (TL_storeB (i := 10) (cs' := #[.bool e2, .slice bu (uni first1 first2).length cu, .slice bu2 (uni last1 last2).length cu2]) rfl rfl rfl rfl rfl rfl (TW_on (sub_pick [11, 12] (by decide) rfl) ?_))
    repeat (first
      | ((first | refine TW_plain rfl rfl ?_ | refine TW_gmet rfl rfl rfl rfl ?_); first | refine TN_val (qp rfl) rfl rfl ?_ | refine TN_val (qlen Und.eq rfl) rfl rfl ?_ | refine TN_val (qfld FldC.fld rfl rfl) rfl rfl ?_ | refine TN_val (rr_nilc rfl) rfl rfl ?_ | refine TN_val (rr_eql rfl rfl (qT (by omega))) rfl rfl ?_ | refine TN_val (rr_eql rfl rfl (qF (by omega))) rfl rfl ?_)
      | refine TW_skip rfl rfl rfl rfl rfl rfl rfl ?_ | refine TW_done ?_)
    repeat (first
      | refine qv rfl (qp rfl) rfl rfl ?_ | refine TL_nil ?_ | refine T_seq ?_ | refine T_region ?_ | refine qcT rfl ?_ | refine qcF rfl ?_ | refine T_skip ?_
      | refine T_ret ?_ | refine T_block ?_ | refine E_then ?_ | refine E_thenR ?_ | refine E_blockN ?_ | refine E_blockR ?_
      | refine qs rfl rfl rfl rfl rfl rfl ?_
      | ((try refine qg rfl rfl rfl ?_); first | refine qv rfl (qp rfl) rfl rfl ?_ | refine qv rfl (qlen Und.eq rfl) rfl rfl ?_ | refine qv rfl (qfld FldC.fld rfl rfl) rfl rfl ?_ | refine qv rfl (rr_nilc rfl) rfl rfl ?_ | refine qv rfl (rr_eql rfl rfl (qT (by omega))) rfl rfl ?_ | refine qv rfl (rr_eql rfl rfl (qF (by omega))) rfl rfl ?_))
    refine E_retc1 (i := 10) rfl rfl rfl rfl fun w hm => ?_
    exact hm.meetsB (S := nodeSp g vf ve rule (⟨false || e2, uni first1 first2, uni last1 last2⟩, p2)) (⟨vc, vr, vfol, vl, vs, F⟩, .slice bu (uni first1 first2).length cu, .slice bu2 (uni last1 last2).length cu2) hx2 [0, 1, 2, 3, 4, 5, 13, 14] (by decide) rfl
end Go.Proofs.Ytknojgjdaafboaa.eng

/- PlC -/
namespace Go.Proofs.Ytknojgjdaafboaa.eng
open Go.RowKit kit mix classL rexL placesL
set_option maxHeartbeats 32000000 in
set_option maxRecDepth 100000 in
theorem node_cat {M : Nat} (IH : NodeAt M) (a b1 : Re) (ha : a.size ≤ M) (hb1 : b1.size ≤ M) (g : Nat) (vf ve : Value) (rule : Int) (p : PS) (x : MIx) (v : Value) (w : World) (B : Base) (hp : PSOk p) (hx : x.vs.length = p.follow.length) (hn : p.classes.length + (a.size + b1.size + 1) ≤ 100000) (hr64 : kit.okI64 rule) (hv : RexR (OldB B) B.w v (emb (.cat a b1))) (hm : Mem B (mkL g vf ve rule x p) w) :
    Calls Try.prog 13 #[.pointer (some ⟨g, 0, none⟩), v] w (MeetsB (nodeSp g vf ve rule (nodeF rule (.cat a b1) p)) B) := by
  obtain ⟨vk, rfl, _, hks⟩ := hv
  obtain ⟨bk, ck, rfl, h1, h2, h3⟩ := hks
  obtain ⟨b, off, rfl, hF, hrd⟩ := h3 (by show 0 < 2; decide)
  obtain ⟨kb, kc, hr, hkid1⟩ := rkid_at (k := 0) hrd (by show 0 < 2; decide)
  obtain ⟨kb2, kc2, hr2, hkid2⟩ := rkid_at (k := 1) hrd (by show 1 < 2; decide)
  have hat1 := fun (L : List Own) (j : Nat) (v : Value) hj => at_oldB (L := L) hF hr j v hj
  have hat2 := fun (L : List Own) (j : Nat) (v : Value) hj => at_oldB (L := L) hF hr2 j v hj
  clear h3 hrd hr hr2
  obtain ⟨hp1, hp2, hp3, hp4, hp5⟩ := node_ok rule a p hp
  obtain ⟨kp1, kp2, kp3, kp4, kp5⟩ := node_ok rule b1 _ hp1
  have hI1 := fun w B hv hm => IH a ha g vf ve rule p x (rexV (emb a).kind (emb a).cls (.slice kb (emb a).kids.length kc)) w B hp hx (by omega) hr64 hv hm
  have hI2 := fun x1 hx1 w B hv hm => IH b1 hb1 g vf ve rule (nodeF rule a p).2 x1 (rexV (emb b1).kind (emb b1).cls (.slice kb2 (emb b1).kids.length kc2)) w B hp1 hx1 (by omega) hr64 hv hm
  rw [show nodeF rule (.cat a b1) p = (⟨(nodeF rule a p).1.empty && (nodeF rule b1 (nodeF rule a p).2).1.empty, if (nodeF rule a p).1.empty then uni (nodeF rule a p).1.first (nodeF rule b1 (nodeF rule a p).2).1.first else (nodeF rule a p).1.first, if (nodeF rule b1 (nodeF rule a p).2).1.empty then uni (nodeF rule a p).1.last (nodeF rule b1 (nodeF rule a p).2).1.last else (nodeF rule b1 (nodeF rule a p).2).1.last⟩, { (nodeF rule b1 (nodeF rule a p).2).2 with follow := behindF (nodeF rule b1 (nodeF rule a p).2).2.follow (nodeF rule a p).1.last (nodeF rule b1 (nodeF rule a p).2).1.first }) from rfl]
  generalize nodeF rule b1 (nodeF rule a p).2 = R2 at *
  generalize nodeF rule a p = R1 at *
  obtain ⟨⟨e1, first1, last1⟩, p1⟩ := R1
  obtain ⟨⟨e2, first2, last2⟩, p2⟩ := R2
  dsimp only at hp1 hp2 hp3 hp4 hp5 kp1 kp2 kp3 kp4 kp5 hI2 ⊢
  unfold mkL at hm
  refine enterB hm (args := [.pointer (some ⟨g, 0, none⟩), rexV 4 C4.zero (.slice (some ⟨b, off, none⟩) 2 ck)]) (n := 176) Try.func13 rfl rfl rfl ?_
  clear hm
  refine T_seq (T_region (TL_box rfl rfl rfl fun g3 => TL_new rfl fun g4 => ?_))
  conv => arg 8; simp only [zA, zB, zC, zD, zE, zF, zG, zH, zI, rowS, ret, id_eq]
  repeat (first
    | refine qv rfl (qp rfl) rfl rfl ?_ | refine TL_nil ?_ | refine T_seq ?_ | refine T_region ?_ | refine qcT rfl ?_ | refine qcF rfl ?_ | refine T_skip ?_
    | refine T_ret ?_ | refine T_block ?_ | refine E_then ?_ | refine E_thenR ?_ | refine E_blockN ?_ | refine E_blockR ?_
    | refine qs rfl rfl rfl rfl rfl rfl ?_
    | ((try refine qg rfl rfl rfl ?_); first | refine qv rfl (qp rfl) rfl rfl ?_ | refine qv rfl (rr_load1 (v := .int .i64 4) TyC.ty rfl (at_blk (i := 6) rfl rfl)) rfl rfl ?_ | refine qv rfl (qlen Und.eq rfl) rfl rfl ?_ | refine qv rfl (qfld FldC.fld rfl rfl) rfl rfl ?_ | refine qv rfl (rr_nilc rfl) rfl rfl ?_ | refine qv rfl (rr_eql rfl rfl (qT (by omega))) rfl rfl ?_ | refine qv rfl (rr_eql rfl rfl (qF (by omega))) rfl rfl ?_))
  (repeat refine T_seq ?_)
  refine T_midq (ι := MIx × Value × Value × Value × Value × Nat × Nat) (fun y => y.1.vs.length = p2.follow.length) (fun y => [(0, .pointer (some ⟨g, 0, none⟩)), (4, .pointer (some ⟨g4, 0, none⟩)), (9, .pointer (some ⟨y.2.2.2.2.2.1, 0, none⟩)), (10, .pointer (some ⟨y.2.2.2.2.2.2, 0, none⟩))])
    (fun y => mkL g vf ve rule y.1 p2 ++ [intR y.2.1 first1, intR y.2.2.1 last1, intR y.2.2.2.1 first2, intR y.2.2.2.2.1 last2, blkO g4 #[.bool false, .slice none 0 0, .slice none 0 0] 55, blkO y.2.2.2.2.2.1 #[.bool e1, y.2.1, y.2.2.1] 55, blkO y.2.2.2.2.2.2 #[.bool e2, y.2.2.2.1, y.2.2.2.2.1] 55]) ?_ ?_
  · refine T_ord ([blkO g3 (rexC 4 C4.zero (.slice (some ⟨b, off, none⟩) 2 ck)).toArray 33]) (.calm 0 (.calm 1 (.calm 2 (.calm 3 (.calm 4 (.calm 6 (.calm 7 (.calm 8 (.calm 9 (.calm 10 (.three 5 (.three 11 (.two 12 (.one 13 (.one 14 (.one 15 (.done)))) 13 (.one 12 (.one 14 (.one 15 (.done))))) 12 (.two 11 (.one 13 (.one 14 (.one 15 (.done)))) 13 (.one 11 (.one 14 (.one 15 (.done))))) 13 (.two 11 (.one 12 (.one 14 (.one 15 (.done)))) 12 (.one 11 (.one 14 (.one 15 (.done)))))) 12 (.two 5 (.two 11 (.one 13 (.one 14 (.one 15 (.done)))) 13 (.one 11 (.one 14 (.one 15 (.done))))) 13 (.one 5 (.one 11 (.one 14 (.one 15 (.done)))))) 13 (.two 5 (.two 11 (.one 12 (.one 14 (.one 15 (.done)))) 12 (.one 11 (.one 14 (.one 15 (.done))))) 12 (.one 5 (.one 11 (.one 14 (.one 15 (.done))))))))))))))))) (sub_pick [6] (by decide) rfl) (by kernel_rfl) (by kernel_rfl) (by intro c a d v w h; cases d <;> exact h) ?_
    repeat (first
      | ((first | refine TW_plain rfl rfl ?_ | refine TW_gmet rfl rfl rfl rfl ?_); first | refine TN_val (qp rfl) rfl rfl ?_ | refine TN_val (rr_load1 (v := .slice (some ⟨b, off, none⟩) 2 ck) TyC.ty rfl (at_blk (i := 0) rfl rfl)) rfl rfl ?_ | refine TN_val (rr_idxc (j := 0) Und.eq TyC.ty rfl rfl (by decide)) rfl rfl ?_ | refine TN_val (rr_idxc (j := 1) Und.eq TyC.ty rfl rfl (by decide)) rfl rfl ?_ | refine TN_val (rr_loadN TyC.ty rfl rfl (hat1 _)) rfl rfl ?_ | refine TN_val (rr_loadN TyC.ty rfl rfl (hat2 _)) rfl rfl ?_ | refine TN_val (qlen Und.eq rfl) rfl rfl ?_ | refine TN_val (qfld FldC.fld rfl rfl) rfl rfl ?_ | refine TN_val (rr_nilc rfl) rfl rfl ?_ | refine TN_val (rr_eql rfl rfl (qT (by omega))) rfl rfl ?_ | refine TN_val (rr_eql rfl rfl (qF (by omega))) rfl rfl ?_)
      | refine TW_skip rfl rfl rfl rfl rfl rfl rfl ?_ | refine TW_done ?_)
    refine TW_three rfl rfl rfl ?_ ?_ ?_
    · refine TL_callB [0, 1, 2, 3, 4, 5] [6, 7] (by decide) rfl rfl (he2 EntersC.en rfl rfl rfl) (fun w hm hb => hI1 w _ (rex_on (hm.pick [0, 1, 2, 3, 4, 5] (by decide) rfl) hkid1) hb) rfl rfl rfl ?_
      rintro ⟨⟨vc1, vr1, vfol1, vl1, vs1, F1⟩, va1, vb1⟩ hx1
      have hx1 : vs1.length = p1.follow.length := hx1
      conv => arg 8; simp only [zA, zB, zC, zD, zE, zF, zG, zH, zI, rowS, ret, id_eq, nodeSp, mkL]
      conv => arg 7; simp only [nodeSp]
      refine TW_on (sub_pick [0] (by decide) rfl) ?_
      refine TW_three rfl rfl rfl ?_ ?_ ?_
      · refine TL_callB [2, 3, 4, 5, 6, 7] [0, 1, 8, 9] (by decide) rfl rfl (he2 EntersC.en rfl rfl rfl) (fun w hm hb => hI2 ⟨vc1, vr1, vfol1, vl1, vs1, F1⟩ hx1 w _ (rex_on (hm.pick [2, 3, 4, 5, 6, 7] (by decide) rfl) hkid2) hb) rfl rfl rfl ?_
        rintro ⟨⟨vc2, vr2, vfol2, vl2, vs2, F2⟩, va2, vb2⟩ hx2
        have hx2 : vs2.length = p2.follow.length := hx2
        conv => arg 8; simp only [zA, zB, zC, zD, zE, zF, zG, zH, zI, rowS, ret, id_eq, nodeSp, mkL]
        conv => arg 7; simp only [nodeSp]
        refine TW_on (sub_pick [0] (by decide) rfl) ?_
        refine TW_two rfl rfl ?_ ?_
        · refine TL_new rfl fun g7 => (TW_on (sub_pick [0] (by decide) rfl) ?_)
          refine TW_one rfl (TL_new rfl fun g8 => (TW_on (sub_pick [0] (by decide) rfl) ?_))
          refine TW_one rfl (TL_slv (i := 2) rfl fun _ qa1 => TL_slv (i := 3) rfl fun _ qb1 => TL_storeB (i := 12) (cs' := #[.bool e1, va1, vb1]) rfl rfl rfl rfl (by simp only [List.all_cons, List.all_nil, qa1, qb1]; rfl) rfl (TW_on (sub_pick [0] (by decide) rfl) ?_))
          repeat (first
            | ((first | refine TW_plain rfl rfl ?_ | refine TW_gmet rfl rfl rfl rfl ?_); first | refine TN_val (qp rfl) rfl rfl ?_ | refine TN_val (qlen Und.eq rfl) rfl rfl ?_ | refine TN_val (qfld FldC.fld rfl rfl) rfl rfl ?_ | refine TN_val (rr_nilc rfl) rfl rfl ?_ | refine TN_val (rr_eql rfl rfl (qT (by omega))) rfl rfl ?_ | refine TN_val (rr_eql rfl rfl (qF (by omega))) rfl rfl ?_)
            | refine TW_skip rfl rfl rfl rfl rfl rfl rfl ?_ | refine TW_done ?_)
          refine TW_one rfl (TL_slv (i := 10) rfl fun _ qa2 => TL_slv (i := 11) rfl fun _ qb2 => TL_storeB (i := 13) (cs' := #[.bool e2, va2, vb2]) rfl rfl rfl rfl (by simp only [List.all_cons, List.all_nil, qa2, qb2]; rfl) rfl (TW_on (sub_pick [0] (by decide) rfl) ?_))
          repeat (first
            | ((first | refine TW_plain rfl rfl ?_ | refine TW_gmet rfl rfl rfl rfl ?_); first | refine TN_val (qp rfl) rfl rfl ?_ | refine TN_val (qlen Und.eq rfl) rfl rfl ?_ | refine TN_val (qfld FldC.fld rfl rfl) rfl rfl ?_ | refine TN_val (rr_nilc rfl) rfl rfl ?_ | refine TN_val (rr_eql rfl rfl (qT (by omega))) rfl rfl ?_ | refine TN_val (rr_eql rfl rfl (qF (by omega))) rfl rfl ?_)
            | refine TW_skip rfl rfl rfl rfl rfl rfl rfl ?_ | refine TW_done ?_)
          refine E_pick [4, 5, 6, 7, 8, 9, 2, 3, 10, 11, 1, 12, 13] (by decide) rfl ?_
          exact E_mid (⟨vc2, vr2, vfol2, vl2, vs2, F2⟩, va1, vb1, va2, vb2, g7, g8) hx2 (by repeat' (first | exact True.intro | refine And.intro rfl ?_)) rfl
        · refine TL_new rfl fun g8 => (TW_on (sub_pick [0] (by decide) rfl) ?_)
          refine TW_one rfl (TL_new rfl fun g7 => (TW_on (sub_pick [0] (by decide) rfl) ?_))
          refine TW_one rfl (TL_slv (i := 2) rfl fun _ qa1 => TL_slv (i := 3) rfl fun _ qb1 => TL_storeB (i := 13) (cs' := #[.bool e1, va1, vb1]) rfl rfl rfl rfl (by simp only [List.all_cons, List.all_nil, qa1, qb1]; rfl) rfl (TW_on (sub_pick [0] (by decide) rfl) ?_))
          repeat (first
            | ((first | refine TW_plain rfl rfl ?_ | refine TW_gmet rfl rfl rfl rfl ?_); first | refine TN_val (qp rfl) rfl rfl ?_ | refine TN_val (qlen Und.eq rfl) rfl rfl ?_ | refine TN_val (qfld FldC.fld rfl rfl) rfl rfl ?_ | refine TN_val (rr_nilc rfl) rfl rfl ?_ | refine TN_val (rr_eql rfl rfl (qT (by omega))) rfl rfl ?_ | refine TN_val (rr_eql rfl rfl (qF (by omega))) rfl rfl ?_)
            | refine TW_skip rfl rfl rfl rfl rfl rfl rfl ?_ | refine TW_done ?_)
          refine TW_one rfl (TL_slv (i := 10) rfl fun _ qa2 => TL_slv (i := 11) rfl fun _ qb2 => TL_storeB (i := 12) (cs' := #[.bool e2, va2, vb2]) rfl rfl rfl rfl (by simp only [List.all_cons, List.all_nil, qa2, qb2]; rfl) rfl (TW_on (sub_pick [0] (by decide) rfl) ?_))
          repeat (first
            | ((first | refine TW_plain rfl rfl ?_ | refine TW_gmet rfl rfl rfl rfl ?_); first | refine TN_val (qp rfl) rfl rfl ?_ | refine TN_val (qlen Und.eq rfl) rfl rfl ?_ | refine TN_val (qfld FldC.fld rfl rfl) rfl rfl ?_ | refine TN_val (rr_nilc rfl) rfl rfl ?_ | refine TN_val (rr_eql rfl rfl (qT (by omega))) rfl rfl ?_ | refine TN_val (rr_eql rfl rfl (qF (by omega))) rfl rfl ?_)
            | refine TW_skip rfl rfl rfl rfl rfl rfl rfl ?_ | refine TW_done ?_)
          refine E_pick [4, 5, 6, 7, 8, 9, 2, 3, 10, 11, 1, 13, 12] (by decide) rfl ?_
          exact E_mid (⟨vc2, vr2, vfol2, vl2, vs2, F2⟩, va1, vb1, va2, vb2, g7, g8) hx2 (by repeat' (first | exact True.intro | refine And.intro rfl ?_)) rfl
      · refine TL_new rfl fun g7 => (TW_on (sub_pick [0] (by decide) rfl) ?_)
        refine TW_two rfl rfl ?_ ?_
        · refine TL_callB [2, 3, 4, 5, 6, 7] [0, 1, 8, 9, 10] (by decide) rfl rfl (he2 EntersC.en rfl rfl rfl) (fun w hm hb => hI2 ⟨vc1, vr1, vfol1, vl1, vs1, F1⟩ hx1 w _ (rex_on (hm.pick [2, 3, 4, 5, 6, 7] (by decide) rfl) hkid2) hb) rfl rfl rfl ?_
          rintro ⟨⟨vc2, vr2, vfol2, vl2, vs2, F2⟩, va2, vb2⟩ hx2
          have hx2 : vs2.length = p2.follow.length := hx2
          conv => arg 8; simp only [zA, zB, zC, zD, zE, zF, zG, zH, zI, rowS, ret, id_eq, nodeSp, mkL]
          conv => arg 7; simp only [nodeSp]
          refine TW_on (sub_pick [0] (by decide) rfl) ?_
          refine TW_one rfl (TL_new rfl fun g8 => (TW_on (sub_pick [0] (by decide) rfl) ?_))
          refine TW_one rfl (TL_slv (i := 2) rfl fun _ qa1 => TL_slv (i := 3) rfl fun _ qb1 => TL_storeB (i := 4) (cs' := #[.bool e1, va1, vb1]) rfl rfl rfl rfl (by simp only [List.all_cons, List.all_nil, qa1, qb1]; rfl) rfl (TW_on (sub_pick [0] (by decide) rfl) ?_))
          repeat (first
            | ((first | refine TW_plain rfl rfl ?_ | refine TW_gmet rfl rfl rfl rfl ?_); first | refine TN_val (qp rfl) rfl rfl ?_ | refine TN_val (qlen Und.eq rfl) rfl rfl ?_ | refine TN_val (qfld FldC.fld rfl rfl) rfl rfl ?_ | refine TN_val (rr_nilc rfl) rfl rfl ?_ | refine TN_val (rr_eql rfl rfl (qT (by omega))) rfl rfl ?_ | refine TN_val (rr_eql rfl rfl (qF (by omega))) rfl rfl ?_)
            | refine TW_skip rfl rfl rfl rfl rfl rfl rfl ?_ | refine TW_done ?_)
          refine TW_one rfl (TL_slv (i := 11) rfl fun _ qa2 => TL_slv (i := 12) rfl fun _ qb2 => TL_storeB (i := 13) (cs' := #[.bool e2, va2, vb2]) rfl rfl rfl rfl (by simp only [List.all_cons, List.all_nil, qa2, qb2]; rfl) rfl (TW_on (sub_pick [0] (by decide) rfl) ?_))
          repeat (first
            | ((first | refine TW_plain rfl rfl ?_ | refine TW_gmet rfl rfl rfl rfl ?_); first | refine TN_val (qp rfl) rfl rfl ?_ | refine TN_val (qlen Und.eq rfl) rfl rfl ?_ | refine TN_val (qfld FldC.fld rfl rfl) rfl rfl ?_ | refine TN_val (rr_nilc rfl) rfl rfl ?_ | refine TN_val (rr_eql rfl rfl (qT (by omega))) rfl rfl ?_ | refine TN_val (rr_eql rfl rfl (qF (by omega))) rfl rfl ?_)
            | refine TW_skip rfl rfl rfl rfl rfl rfl rfl ?_ | refine TW_done ?_)
          refine E_pick [5, 6, 7, 8, 9, 10, 2, 3, 11, 12, 1, 4, 13] (by decide) rfl ?_
          exact E_mid (⟨vc2, vr2, vfol2, vl2, vs2, F2⟩, va1, vb1, va2, vb2, g7, g8) hx2 (by repeat' (first | exact True.intro | refine And.intro rfl ?_)) rfl
        · refine TL_new rfl fun g8 => (TW_on (sub_pick [0] (by decide) rfl) ?_)
          refine TW_one rfl (TL_callB [2, 3, 4, 5, 6, 7] [0, 1, 8, 9, 10, 11] (by decide) rfl rfl (he2 EntersC.en rfl rfl rfl) (fun w hm hb => hI2 ⟨vc1, vr1, vfol1, vl1, vs1, F1⟩ hx1 w _ (rex_on (hm.pick [2, 3, 4, 5, 6, 7] (by decide) rfl) hkid2) hb) rfl rfl rfl ?_)
          rintro ⟨⟨vc2, vr2, vfol2, vl2, vs2, F2⟩, va2, vb2⟩ hx2
          have hx2 : vs2.length = p2.follow.length := hx2
          conv => arg 8; simp only [zA, zB, zC, zD, zE, zF, zG, zH, zI, rowS, ret, id_eq, nodeSp, mkL]
          conv => arg 7; simp only [nodeSp]
          refine TW_on (sub_pick [0] (by decide) rfl) ?_
          refine TW_one rfl (TL_slv (i := 2) rfl fun _ qa1 => TL_slv (i := 3) rfl fun _ qb1 => TL_storeB (i := 4) (cs' := #[.bool e1, va1, vb1]) rfl rfl rfl rfl (by simp only [List.all_cons, List.all_nil, qa1, qb1]; rfl) rfl (TW_on (sub_pick [0] (by decide) rfl) ?_))
          repeat (first
            | ((first | refine TW_plain rfl rfl ?_ | refine TW_gmet rfl rfl rfl rfl ?_); first | refine TN_val (qp rfl) rfl rfl ?_ | refine TN_val (qlen Und.eq rfl) rfl rfl ?_ | refine TN_val (qfld FldC.fld rfl rfl) rfl rfl ?_ | refine TN_val (rr_nilc rfl) rfl rfl ?_ | refine TN_val (rr_eql rfl rfl (qT (by omega))) rfl rfl ?_ | refine TN_val (rr_eql rfl rfl (qF (by omega))) rfl rfl ?_)
            | refine TW_skip rfl rfl rfl rfl rfl rfl rfl ?_ | refine TW_done ?_)
          refine TW_one rfl (TL_slv (i := 12) rfl fun _ qa2 => TL_slv (i := 13) rfl fun _ qb2 => TL_storeB (i := 5) (cs' := #[.bool e2, va2, vb2]) rfl rfl rfl rfl (by simp only [List.all_cons, List.all_nil, qa2, qb2]; rfl) rfl (TW_on (sub_pick [0] (by decide) rfl) ?_))
          repeat (first
            | ((first | refine TW_plain rfl rfl ?_ | refine TW_gmet rfl rfl rfl rfl ?_); first | refine TN_val (qp rfl) rfl rfl ?_ | refine TN_val (qlen Und.eq rfl) rfl rfl ?_ | refine TN_val (qfld FldC.fld rfl rfl) rfl rfl ?_ | refine TN_val (rr_nilc rfl) rfl rfl ?_ | refine TN_val (rr_eql rfl rfl (qT (by omega))) rfl rfl ?_ | refine TN_val (rr_eql rfl rfl (qF (by omega))) rfl rfl ?_)
            | refine TW_skip rfl rfl rfl rfl rfl rfl rfl ?_ | refine TW_done ?_)
          refine E_pick [6, 7, 8, 9, 10, 11, 2, 3, 12, 13, 1, 4, 5] (by decide) rfl ?_
          exact E_mid (⟨vc2, vr2, vfol2, vl2, vs2, F2⟩, va1, vb1, va2, vb2, g7, g8) hx2 (by repeat' (first | exact True.intro | refine And.intro rfl ?_)) rfl
      · refine TL_new rfl fun g8 => (TW_on (sub_pick [0] (by decide) rfl) ?_)
        refine TW_two rfl rfl ?_ ?_
        · refine TL_callB [2, 3, 4, 5, 6, 7] [0, 1, 8, 9, 10] (by decide) rfl rfl (he2 EntersC.en rfl rfl rfl) (fun w hm hb => hI2 ⟨vc1, vr1, vfol1, vl1, vs1, F1⟩ hx1 w _ (rex_on (hm.pick [2, 3, 4, 5, 6, 7] (by decide) rfl) hkid2) hb) rfl rfl rfl ?_
          rintro ⟨⟨vc2, vr2, vfol2, vl2, vs2, F2⟩, va2, vb2⟩ hx2
          have hx2 : vs2.length = p2.follow.length := hx2
          conv => arg 8; simp only [zA, zB, zC, zD, zE, zF, zG, zH, zI, rowS, ret, id_eq, nodeSp, mkL]
          conv => arg 7; simp only [nodeSp]
          refine TW_on (sub_pick [0] (by decide) rfl) ?_
          refine TW_one rfl (TL_new rfl fun g7 => (TW_on (sub_pick [0] (by decide) rfl) ?_))
          refine TW_one rfl (TL_slv (i := 2) rfl fun _ qa1 => TL_slv (i := 3) rfl fun _ qb1 => TL_storeB (i := 13) (cs' := #[.bool e1, va1, vb1]) rfl rfl rfl rfl (by simp only [List.all_cons, List.all_nil, qa1, qb1]; rfl) rfl (TW_on (sub_pick [0] (by decide) rfl) ?_))
          repeat (first
            | ((first | refine TW_plain rfl rfl ?_ | refine TW_gmet rfl rfl rfl rfl ?_); first | refine TN_val (qp rfl) rfl rfl ?_ | refine TN_val (qlen Und.eq rfl) rfl rfl ?_ | refine TN_val (qfld FldC.fld rfl rfl) rfl rfl ?_ | refine TN_val (rr_nilc rfl) rfl rfl ?_ | refine TN_val (rr_eql rfl rfl (qT (by omega))) rfl rfl ?_ | refine TN_val (rr_eql rfl rfl (qF (by omega))) rfl rfl ?_)
            | refine TW_skip rfl rfl rfl rfl rfl rfl rfl ?_ | refine TW_done ?_)
          refine TW_one rfl (TL_slv (i := 11) rfl fun _ qa2 => TL_slv (i := 12) rfl fun _ qb2 => TL_storeB (i := 4) (cs' := #[.bool e2, va2, vb2]) rfl rfl rfl rfl (by simp only [List.all_cons, List.all_nil, qa2, qb2]; rfl) rfl (TW_on (sub_pick [0] (by decide) rfl) ?_))
          repeat (first
            | ((first | refine TW_plain rfl rfl ?_ | refine TW_gmet rfl rfl rfl rfl ?_); first | refine TN_val (qp rfl) rfl rfl ?_ | refine TN_val (qlen Und.eq rfl) rfl rfl ?_ | refine TN_val (qfld FldC.fld rfl rfl) rfl rfl ?_ | refine TN_val (rr_nilc rfl) rfl rfl ?_ | refine TN_val (rr_eql rfl rfl (qT (by omega))) rfl rfl ?_ | refine TN_val (rr_eql rfl rfl (qF (by omega))) rfl rfl ?_)
            | refine TW_skip rfl rfl rfl rfl rfl rfl rfl ?_ | refine TW_done ?_)
          refine E_pick [5, 6, 7, 8, 9, 10, 2, 3, 11, 12, 1, 13, 4] (by decide) rfl ?_
          exact E_mid (⟨vc2, vr2, vfol2, vl2, vs2, F2⟩, va1, vb1, va2, vb2, g7, g8) hx2 (by repeat' (first | exact True.intro | refine And.intro rfl ?_)) rfl
        · refine TL_new rfl fun g7 => (TW_on (sub_pick [0] (by decide) rfl) ?_)
          refine TW_one rfl (TL_callB [2, 3, 4, 5, 6, 7] [0, 1, 8, 9, 10, 11] (by decide) rfl rfl (he2 EntersC.en rfl rfl rfl) (fun w hm hb => hI2 ⟨vc1, vr1, vfol1, vl1, vs1, F1⟩ hx1 w _ (rex_on (hm.pick [2, 3, 4, 5, 6, 7] (by decide) rfl) hkid2) hb) rfl rfl rfl ?_)
          rintro ⟨⟨vc2, vr2, vfol2, vl2, vs2, F2⟩, va2, vb2⟩ hx2
          have hx2 : vs2.length = p2.follow.length := hx2
          conv => arg 8; simp only [zA, zB, zC, zD, zE, zF, zG, zH, zI, rowS, ret, id_eq, nodeSp, mkL]
          conv => arg 7; simp only [nodeSp]
          refine TW_on (sub_pick [0] (by decide) rfl) ?_
          refine TW_one rfl (TL_slv (i := 2) rfl fun _ qa1 => TL_slv (i := 3) rfl fun _ qb1 => TL_storeB (i := 5) (cs' := #[.bool e1, va1, vb1]) rfl rfl rfl rfl (by simp only [List.all_cons, List.all_nil, qa1, qb1]; rfl) rfl (TW_on (sub_pick [0] (by decide) rfl) ?_))
          repeat (first
            | ((first | refine TW_plain rfl rfl ?_ | refine TW_gmet rfl rfl rfl rfl ?_); first | refine TN_val (qp rfl) rfl rfl ?_ | refine TN_val (qlen Und.eq rfl) rfl rfl ?_ | refine TN_val (qfld FldC.fld rfl rfl) rfl rfl ?_ | refine TN_val (rr_nilc rfl) rfl rfl ?_ | refine TN_val (rr_eql rfl rfl (qT (by omega))) rfl rfl ?_ | refine TN_val (rr_eql rfl rfl (qF (by omega))) rfl rfl ?_)
            | refine TW_skip rfl rfl rfl rfl rfl rfl rfl ?_ | refine TW_done ?_)
          refine TW_one rfl (TL_slv (i := 12) rfl fun _ qa2 => TL_slv (i := 13) rfl fun _ qb2 => TL_storeB (i := 4) (cs' := #[.bool e2, va2, vb2]) rfl rfl rfl rfl (by simp only [List.all_cons, List.all_nil, qa2, qb2]; rfl) rfl (TW_on (sub_pick [0] (by decide) rfl) ?_))
          repeat (first
            | ((first | refine TW_plain rfl rfl ?_ | refine TW_gmet rfl rfl rfl rfl ?_); first | refine TN_val (qp rfl) rfl rfl ?_ | refine TN_val (qlen Und.eq rfl) rfl rfl ?_ | refine TN_val (qfld FldC.fld rfl rfl) rfl rfl ?_ | refine TN_val (rr_nilc rfl) rfl rfl ?_ | refine TN_val (rr_eql rfl rfl (qT (by omega))) rfl rfl ?_ | refine TN_val (rr_eql rfl rfl (qF (by omega))) rfl rfl ?_)
            | refine TW_skip rfl rfl rfl rfl rfl rfl rfl ?_ | refine TW_done ?_)
          refine E_pick [6, 7, 8, 9, 10, 11, 2, 3, 12, 13, 1, 5, 4] (by decide) rfl ?_
          exact E_mid (⟨vc2, vr2, vfol2, vl2, vs2, F2⟩, va1, vb1, va2, vb2, g7, g8) hx2 (by repeat' (first | exact True.intro | refine And.intro rfl ?_)) rfl
    · refine TL_new rfl fun g7 => (TW_on (sub_pick [6] (by decide) rfl) ?_)
      refine TW_two rfl rfl ?_ ?_
      · refine TL_callB [0, 1, 2, 3, 4, 5] [6, 7, 8] (by decide) rfl rfl (he2 EntersC.en rfl rfl rfl) (fun w hm hb => hI1 w _ (rex_on (hm.pick [0, 1, 2, 3, 4, 5] (by decide) rfl) hkid1) hb) rfl rfl rfl ?_
        rintro ⟨⟨vc1, vr1, vfol1, vl1, vs1, F1⟩, va1, vb1⟩ hx1
        have hx1 : vs1.length = p1.follow.length := hx1
        conv => arg 8; simp only [zA, zB, zC, zD, zE, zF, zG, zH, zI, rowS, ret, id_eq, nodeSp, mkL]
        conv => arg 7; simp only [nodeSp]
        refine TW_on (sub_pick [0] (by decide) rfl) ?_
        refine TW_two rfl rfl ?_ ?_
        · refine TL_callB [3, 4, 5, 6, 7, 8] [0, 1, 2, 9, 10] (by decide) rfl rfl (he2 EntersC.en rfl rfl rfl) (fun w hm hb => hI2 ⟨vc1, vr1, vfol1, vl1, vs1, F1⟩ hx1 w _ (rex_on (hm.pick [3, 4, 5, 6, 7, 8] (by decide) rfl) hkid2) hb) rfl rfl rfl ?_
          rintro ⟨⟨vc2, vr2, vfol2, vl2, vs2, F2⟩, va2, vb2⟩ hx2
          have hx2 : vs2.length = p2.follow.length := hx2
          conv => arg 8; simp only [zA, zB, zC, zD, zE, zF, zG, zH, zI, rowS, ret, id_eq, nodeSp, mkL]
          conv => arg 7; simp only [nodeSp]
          refine TW_on (sub_pick [0] (by decide) rfl) ?_
          refine TW_one rfl (TL_new rfl fun g8 => (TW_on (sub_pick [0] (by decide) rfl) ?_))
          refine TW_one rfl (TL_slv (i := 3) rfl fun _ qa1 => TL_slv (i := 4) rfl fun _ qb1 => TL_storeB (i := 2) (cs' := #[.bool e1, va1, vb1]) rfl rfl rfl rfl (by simp only [List.all_cons, List.all_nil, qa1, qb1]; rfl) rfl (TW_on (sub_pick [0] (by decide) rfl) ?_))
          repeat (first
            | ((first | refine TW_plain rfl rfl ?_ | refine TW_gmet rfl rfl rfl rfl ?_); first | refine TN_val (qp rfl) rfl rfl ?_ | refine TN_val (qlen Und.eq rfl) rfl rfl ?_ | refine TN_val (qfld FldC.fld rfl rfl) rfl rfl ?_ | refine TN_val (rr_nilc rfl) rfl rfl ?_ | refine TN_val (rr_eql rfl rfl (qT (by omega))) rfl rfl ?_ | refine TN_val (rr_eql rfl rfl (qF (by omega))) rfl rfl ?_)
            | refine TW_skip rfl rfl rfl rfl rfl rfl rfl ?_ | refine TW_done ?_)
          refine TW_one rfl (TL_slv (i := 11) rfl fun _ qa2 => TL_slv (i := 12) rfl fun _ qb2 => TL_storeB (i := 13) (cs' := #[.bool e2, va2, vb2]) rfl rfl rfl rfl (by simp only [List.all_cons, List.all_nil, qa2, qb2]; rfl) rfl (TW_on (sub_pick [0] (by decide) rfl) ?_))
          repeat (first
            | ((first | refine TW_plain rfl rfl ?_ | refine TW_gmet rfl rfl rfl rfl ?_); first | refine TN_val (qp rfl) rfl rfl ?_ | refine TN_val (qlen Und.eq rfl) rfl rfl ?_ | refine TN_val (qfld FldC.fld rfl rfl) rfl rfl ?_ | refine TN_val (rr_nilc rfl) rfl rfl ?_ | refine TN_val (rr_eql rfl rfl (qT (by omega))) rfl rfl ?_ | refine TN_val (rr_eql rfl rfl (qF (by omega))) rfl rfl ?_)
            | refine TW_skip rfl rfl rfl rfl rfl rfl rfl ?_ | refine TW_done ?_)
          refine E_pick [5, 6, 7, 8, 9, 10, 3, 4, 11, 12, 1, 2, 13] (by decide) rfl ?_
          exact E_mid (⟨vc2, vr2, vfol2, vl2, vs2, F2⟩, va1, vb1, va2, vb2, g7, g8) hx2 (by repeat' (first | exact True.intro | refine And.intro rfl ?_)) rfl
        · refine TL_new rfl fun g8 => (TW_on (sub_pick [0] (by decide) rfl) ?_)
          refine TW_one rfl (TL_callB [3, 4, 5, 6, 7, 8] [0, 1, 2, 9, 10, 11] (by decide) rfl rfl (he2 EntersC.en rfl rfl rfl) (fun w hm hb => hI2 ⟨vc1, vr1, vfol1, vl1, vs1, F1⟩ hx1 w _ (rex_on (hm.pick [3, 4, 5, 6, 7, 8] (by decide) rfl) hkid2) hb) rfl rfl rfl ?_)
          rintro ⟨⟨vc2, vr2, vfol2, vl2, vs2, F2⟩, va2, vb2⟩ hx2
          have hx2 : vs2.length = p2.follow.length := hx2
          conv => arg 8; simp only [zA, zB, zC, zD, zE, zF, zG, zH, zI, rowS, ret, id_eq, nodeSp, mkL]
          conv => arg 7; simp only [nodeSp]
          refine TW_on (sub_pick [0] (by decide) rfl) ?_
          refine TW_one rfl (TL_slv (i := 3) rfl fun _ qa1 => TL_slv (i := 4) rfl fun _ qb1 => TL_storeB (i := 2) (cs' := #[.bool e1, va1, vb1]) rfl rfl rfl rfl (by simp only [List.all_cons, List.all_nil, qa1, qb1]; rfl) rfl (TW_on (sub_pick [0] (by decide) rfl) ?_))
          repeat (first
            | ((first | refine TW_plain rfl rfl ?_ | refine TW_gmet rfl rfl rfl rfl ?_); first | refine TN_val (qp rfl) rfl rfl ?_ | refine TN_val (qlen Und.eq rfl) rfl rfl ?_ | refine TN_val (qfld FldC.fld rfl rfl) rfl rfl ?_ | refine TN_val (rr_nilc rfl) rfl rfl ?_ | refine TN_val (rr_eql rfl rfl (qT (by omega))) rfl rfl ?_ | refine TN_val (rr_eql rfl rfl (qF (by omega))) rfl rfl ?_)
            | refine TW_skip rfl rfl rfl rfl rfl rfl rfl ?_ | refine TW_done ?_)
          refine TW_one rfl (TL_slv (i := 12) rfl fun _ qa2 => TL_slv (i := 13) rfl fun _ qb2 => TL_storeB (i := 5) (cs' := #[.bool e2, va2, vb2]) rfl rfl rfl rfl (by simp only [List.all_cons, List.all_nil, qa2, qb2]; rfl) rfl (TW_on (sub_pick [0] (by decide) rfl) ?_))
          repeat (first
            | ((first | refine TW_plain rfl rfl ?_ | refine TW_gmet rfl rfl rfl rfl ?_); first | refine TN_val (qp rfl) rfl rfl ?_ | refine TN_val (qlen Und.eq rfl) rfl rfl ?_ | refine TN_val (qfld FldC.fld rfl rfl) rfl rfl ?_ | refine TN_val (rr_nilc rfl) rfl rfl ?_ | refine TN_val (rr_eql rfl rfl (qT (by omega))) rfl rfl ?_ | refine TN_val (rr_eql rfl rfl (qF (by omega))) rfl rfl ?_)
            | refine TW_skip rfl rfl rfl rfl rfl rfl rfl ?_ | refine TW_done ?_)
          refine E_pick [6, 7, 8, 9, 10, 11, 3, 4, 12, 13, 1, 2, 5] (by decide) rfl ?_
          exact E_mid (⟨vc2, vr2, vfol2, vl2, vs2, F2⟩, va1, vb1, va2, vb2, g7, g8) hx2 (by repeat' (first | exact True.intro | refine And.intro rfl ?_)) rfl
      · refine TL_new rfl fun g8 => (TW_on (sub_pick [6] (by decide) rfl) ?_)
        refine TW_one rfl (TL_callB [0, 1, 2, 3, 4, 5] [6, 7, 8, 9] (by decide) rfl rfl (he2 EntersC.en rfl rfl rfl) (fun w hm hb => hI1 w _ (rex_on (hm.pick [0, 1, 2, 3, 4, 5] (by decide) rfl) hkid1) hb) rfl rfl rfl ?_)
        rintro ⟨⟨vc1, vr1, vfol1, vl1, vs1, F1⟩, va1, vb1⟩ hx1
        have hx1 : vs1.length = p1.follow.length := hx1
        conv => arg 8; simp only [zA, zB, zC, zD, zE, zF, zG, zH, zI, rowS, ret, id_eq, nodeSp, mkL]
        conv => arg 7; simp only [nodeSp]
        refine TW_on (sub_pick [0] (by decide) rfl) ?_
        refine TW_one rfl (TL_callB [4, 5, 6, 7, 8, 9] [0, 1, 2, 3, 10, 11] (by decide) rfl rfl (he2 EntersC.en rfl rfl rfl) (fun w hm hb => hI2 ⟨vc1, vr1, vfol1, vl1, vs1, F1⟩ hx1 w _ (rex_on (hm.pick [4, 5, 6, 7, 8, 9] (by decide) rfl) hkid2) hb) rfl rfl rfl ?_)
        rintro ⟨⟨vc2, vr2, vfol2, vl2, vs2, F2⟩, va2, vb2⟩ hx2
        have hx2 : vs2.length = p2.follow.length := hx2
        conv => arg 8; simp only [zA, zB, zC, zD, zE, zF, zG, zH, zI, rowS, ret, id_eq, nodeSp, mkL]
        conv => arg 7; simp only [nodeSp]
        refine TW_on (sub_pick [0] (by decide) rfl) ?_
        refine TW_one rfl (TL_slv (i := 4) rfl fun _ qa1 => TL_slv (i := 5) rfl fun _ qb1 => TL_storeB (i := 2) (cs' := #[.bool e1, va1, vb1]) rfl rfl rfl rfl (by simp only [List.all_cons, List.all_nil, qa1, qb1]; rfl) rfl (TW_on (sub_pick [0] (by decide) rfl) ?_))
        repeat (first
          | ((first | refine TW_plain rfl rfl ?_ | refine TW_gmet rfl rfl rfl rfl ?_); first | refine TN_val (qp rfl) rfl rfl ?_ | refine TN_val (qlen Und.eq rfl) rfl rfl ?_ | refine TN_val (qfld FldC.fld rfl rfl) rfl rfl ?_ | refine TN_val (rr_nilc rfl) rfl rfl ?_ | refine TN_val (rr_eql rfl rfl (qT (by omega))) rfl rfl ?_ | refine TN_val (rr_eql rfl rfl (qF (by omega))) rfl rfl ?_)
          | refine TW_skip rfl rfl rfl rfl rfl rfl rfl ?_ | refine TW_done ?_)
        refine TW_one rfl (TL_slv (i := 12) rfl fun _ qa2 => TL_slv (i := 13) rfl fun _ qb2 => TL_storeB (i := 3) (cs' := #[.bool e2, va2, vb2]) rfl rfl rfl rfl (by simp only [List.all_cons, List.all_nil, qa2, qb2]; rfl) rfl (TW_on (sub_pick [0] (by decide) rfl) ?_))
        repeat (first
          | ((first | refine TW_plain rfl rfl ?_ | refine TW_gmet rfl rfl rfl rfl ?_); first | refine TN_val (qp rfl) rfl rfl ?_ | refine TN_val (qlen Und.eq rfl) rfl rfl ?_ | refine TN_val (qfld FldC.fld rfl rfl) rfl rfl ?_ | refine TN_val (rr_nilc rfl) rfl rfl ?_ | refine TN_val (rr_eql rfl rfl (qT (by omega))) rfl rfl ?_ | refine TN_val (rr_eql rfl rfl (qF (by omega))) rfl rfl ?_)
          | refine TW_skip rfl rfl rfl rfl rfl rfl rfl ?_ | refine TW_done ?_)
        refine E_pick [6, 7, 8, 9, 10, 11, 4, 5, 12, 13, 1, 2, 3] (by decide) rfl ?_
        exact E_mid (⟨vc2, vr2, vfol2, vl2, vs2, F2⟩, va1, vb1, va2, vb2, g7, g8) hx2 (by repeat' (first | exact True.intro | refine And.intro rfl ?_)) rfl
    · refine TL_new rfl fun g8 => (TW_on (sub_pick [6] (by decide) rfl) ?_)
      refine TW_two rfl rfl ?_ ?_
      · refine TL_callB [0, 1, 2, 3, 4, 5] [6, 7, 8] (by decide) rfl rfl (he2 EntersC.en rfl rfl rfl) (fun w hm hb => hI1 w _ (rex_on (hm.pick [0, 1, 2, 3, 4, 5] (by decide) rfl) hkid1) hb) rfl rfl rfl ?_
        rintro ⟨⟨vc1, vr1, vfol1, vl1, vs1, F1⟩, va1, vb1⟩ hx1
        have hx1 : vs1.length = p1.follow.length := hx1
        conv => arg 8; simp only [zA, zB, zC, zD, zE, zF, zG, zH, zI, rowS, ret, id_eq, nodeSp, mkL]
        conv => arg 7; simp only [nodeSp]
        refine TW_on (sub_pick [0] (by decide) rfl) ?_
        refine TW_two rfl rfl ?_ ?_
        · refine TL_callB [3, 4, 5, 6, 7, 8] [0, 1, 2, 9, 10] (by decide) rfl rfl (he2 EntersC.en rfl rfl rfl) (fun w hm hb => hI2 ⟨vc1, vr1, vfol1, vl1, vs1, F1⟩ hx1 w _ (rex_on (hm.pick [3, 4, 5, 6, 7, 8] (by decide) rfl) hkid2) hb) rfl rfl rfl ?_
          rintro ⟨⟨vc2, vr2, vfol2, vl2, vs2, F2⟩, va2, vb2⟩ hx2
          have hx2 : vs2.length = p2.follow.length := hx2
          conv => arg 8; simp only [zA, zB, zC, zD, zE, zF, zG, zH, zI, rowS, ret, id_eq, nodeSp, mkL]
          conv => arg 7; simp only [nodeSp]
          refine TW_on (sub_pick [0] (by decide) rfl) ?_
          refine TW_one rfl (TL_new rfl fun g7 => (TW_on (sub_pick [0] (by decide) rfl) ?_))
          refine TW_one rfl (TL_slv (i := 3) rfl fun _ qa1 => TL_slv (i := 4) rfl fun _ qb1 => TL_storeB (i := 13) (cs' := #[.bool e1, va1, vb1]) rfl rfl rfl rfl (by simp only [List.all_cons, List.all_nil, qa1, qb1]; rfl) rfl (TW_on (sub_pick [0] (by decide) rfl) ?_))
          repeat (first
            | ((first | refine TW_plain rfl rfl ?_ | refine TW_gmet rfl rfl rfl rfl ?_); first | refine TN_val (qp rfl) rfl rfl ?_ | refine TN_val (qlen Und.eq rfl) rfl rfl ?_ | refine TN_val (qfld FldC.fld rfl rfl) rfl rfl ?_ | refine TN_val (rr_nilc rfl) rfl rfl ?_ | refine TN_val (rr_eql rfl rfl (qT (by omega))) rfl rfl ?_ | refine TN_val (rr_eql rfl rfl (qF (by omega))) rfl rfl ?_)
            | refine TW_skip rfl rfl rfl rfl rfl rfl rfl ?_ | refine TW_done ?_)
          refine TW_one rfl (TL_slv (i := 11) rfl fun _ qa2 => TL_slv (i := 12) rfl fun _ qb2 => TL_storeB (i := 2) (cs' := #[.bool e2, va2, vb2]) rfl rfl rfl rfl (by simp only [List.all_cons, List.all_nil, qa2, qb2]; rfl) rfl (TW_on (sub_pick [0] (by decide) rfl) ?_))
          repeat (first
            | ((first | refine TW_plain rfl rfl ?_ | refine TW_gmet rfl rfl rfl rfl ?_); first | refine TN_val (qp rfl) rfl rfl ?_ | refine TN_val (qlen Und.eq rfl) rfl rfl ?_ | refine TN_val (qfld FldC.fld rfl rfl) rfl rfl ?_ | refine TN_val (rr_nilc rfl) rfl rfl ?_ | refine TN_val (rr_eql rfl rfl (qT (by omega))) rfl rfl ?_ | refine TN_val (rr_eql rfl rfl (qF (by omega))) rfl rfl ?_)
            | refine TW_skip rfl rfl rfl rfl rfl rfl rfl ?_ | refine TW_done ?_)
          refine E_pick [5, 6, 7, 8, 9, 10, 3, 4, 11, 12, 1, 13, 2] (by decide) rfl ?_
          exact E_mid (⟨vc2, vr2, vfol2, vl2, vs2, F2⟩, va1, vb1, va2, vb2, g7, g8) hx2 (by repeat' (first | exact True.intro | refine And.intro rfl ?_)) rfl
        · refine TL_new rfl fun g7 => (TW_on (sub_pick [0] (by decide) rfl) ?_)
          refine TW_one rfl (TL_callB [3, 4, 5, 6, 7, 8] [0, 1, 2, 9, 10, 11] (by decide) rfl rfl (he2 EntersC.en rfl rfl rfl) (fun w hm hb => hI2 ⟨vc1, vr1, vfol1, vl1, vs1, F1⟩ hx1 w _ (rex_on (hm.pick [3, 4, 5, 6, 7, 8] (by decide) rfl) hkid2) hb) rfl rfl rfl ?_)
          rintro ⟨⟨vc2, vr2, vfol2, vl2, vs2, F2⟩, va2, vb2⟩ hx2
          have hx2 : vs2.length = p2.follow.length := hx2
          conv => arg 8; simp only [zA, zB, zC, zD, zE, zF, zG, zH, zI, rowS, ret, id_eq, nodeSp, mkL]
          conv => arg 7; simp only [nodeSp]
          refine TW_on (sub_pick [0] (by decide) rfl) ?_
          refine TW_one rfl (TL_slv (i := 3) rfl fun _ qa1 => TL_slv (i := 4) rfl fun _ qb1 => TL_storeB (i := 5) (cs' := #[.bool e1, va1, vb1]) rfl rfl rfl rfl (by simp only [List.all_cons, List.all_nil, qa1, qb1]; rfl) rfl (TW_on (sub_pick [0] (by decide) rfl) ?_))
          repeat (first
            | ((first | refine TW_plain rfl rfl ?_ | refine TW_gmet rfl rfl rfl rfl ?_); first | refine TN_val (qp rfl) rfl rfl ?_ | refine TN_val (qlen Und.eq rfl) rfl rfl ?_ | refine TN_val (qfld FldC.fld rfl rfl) rfl rfl ?_ | refine TN_val (rr_nilc rfl) rfl rfl ?_ | refine TN_val (rr_eql rfl rfl (qT (by omega))) rfl rfl ?_ | refine TN_val (rr_eql rfl rfl (qF (by omega))) rfl rfl ?_)
            | refine TW_skip rfl rfl rfl rfl rfl rfl rfl ?_ | refine TW_done ?_)
          refine TW_one rfl (TL_slv (i := 12) rfl fun _ qa2 => TL_slv (i := 13) rfl fun _ qb2 => TL_storeB (i := 2) (cs' := #[.bool e2, va2, vb2]) rfl rfl rfl rfl (by simp only [List.all_cons, List.all_nil, qa2, qb2]; rfl) rfl (TW_on (sub_pick [0] (by decide) rfl) ?_))
          repeat (first
            | ((first | refine TW_plain rfl rfl ?_ | refine TW_gmet rfl rfl rfl rfl ?_); first | refine TN_val (qp rfl) rfl rfl ?_ | refine TN_val (qlen Und.eq rfl) rfl rfl ?_ | refine TN_val (qfld FldC.fld rfl rfl) rfl rfl ?_ | refine TN_val (rr_nilc rfl) rfl rfl ?_ | refine TN_val (rr_eql rfl rfl (qT (by omega))) rfl rfl ?_ | refine TN_val (rr_eql rfl rfl (qF (by omega))) rfl rfl ?_)
            | refine TW_skip rfl rfl rfl rfl rfl rfl rfl ?_ | refine TW_done ?_)
          refine E_pick [6, 7, 8, 9, 10, 11, 3, 4, 12, 13, 1, 5, 2] (by decide) rfl ?_
          exact E_mid (⟨vc2, vr2, vfol2, vl2, vs2, F2⟩, va1, vb1, va2, vb2, g7, g8) hx2 (by repeat' (first | exact True.intro | refine And.intro rfl ?_)) rfl
      · refine TL_new rfl fun g7 => (TW_on (sub_pick [6] (by decide) rfl) ?_)
        refine TW_one rfl (TL_callB [0, 1, 2, 3, 4, 5] [6, 7, 8, 9] (by decide) rfl rfl (he2 EntersC.en rfl rfl rfl) (fun w hm hb => hI1 w _ (rex_on (hm.pick [0, 1, 2, 3, 4, 5] (by decide) rfl) hkid1) hb) rfl rfl rfl ?_)
        rintro ⟨⟨vc1, vr1, vfol1, vl1, vs1, F1⟩, va1, vb1⟩ hx1
        have hx1 : vs1.length = p1.follow.length := hx1
        conv => arg 8; simp only [zA, zB, zC, zD, zE, zF, zG, zH, zI, rowS, ret, id_eq, nodeSp, mkL]
        conv => arg 7; simp only [nodeSp]
        refine TW_on (sub_pick [0] (by decide) rfl) ?_
        refine TW_one rfl (TL_callB [4, 5, 6, 7, 8, 9] [0, 1, 2, 3, 10, 11] (by decide) rfl rfl (he2 EntersC.en rfl rfl rfl) (fun w hm hb => hI2 ⟨vc1, vr1, vfol1, vl1, vs1, F1⟩ hx1 w _ (rex_on (hm.pick [4, 5, 6, 7, 8, 9] (by decide) rfl) hkid2) hb) rfl rfl rfl ?_)
        rintro ⟨⟨vc2, vr2, vfol2, vl2, vs2, F2⟩, va2, vb2⟩ hx2
        have hx2 : vs2.length = p2.follow.length := hx2
        conv => arg 8; simp only [zA, zB, zC, zD, zE, zF, zG, zH, zI, rowS, ret, id_eq, nodeSp, mkL]
        conv => arg 7; simp only [nodeSp]
        refine TW_on (sub_pick [0] (by decide) rfl) ?_
        refine TW_one rfl (TL_slv (i := 4) rfl fun _ qa1 => TL_slv (i := 5) rfl fun _ qb1 => TL_storeB (i := 3) (cs' := #[.bool e1, va1, vb1]) rfl rfl rfl rfl (by simp only [List.all_cons, List.all_nil, qa1, qb1]; rfl) rfl (TW_on (sub_pick [0] (by decide) rfl) ?_))
        repeat (first
          | ((first | refine TW_plain rfl rfl ?_ | refine TW_gmet rfl rfl rfl rfl ?_); first | refine TN_val (qp rfl) rfl rfl ?_ | refine TN_val (qlen Und.eq rfl) rfl rfl ?_ | refine TN_val (qfld FldC.fld rfl rfl) rfl rfl ?_ | refine TN_val (rr_nilc rfl) rfl rfl ?_ | refine TN_val (rr_eql rfl rfl (qT (by omega))) rfl rfl ?_ | refine TN_val (rr_eql rfl rfl (qF (by omega))) rfl rfl ?_)
          | refine TW_skip rfl rfl rfl rfl rfl rfl rfl ?_ | refine TW_done ?_)
        refine TW_one rfl (TL_slv (i := 12) rfl fun _ qa2 => TL_slv (i := 13) rfl fun _ qb2 => TL_storeB (i := 2) (cs' := #[.bool e2, va2, vb2]) rfl rfl rfl rfl (by simp only [List.all_cons, List.all_nil, qa2, qb2]; rfl) rfl (TW_on (sub_pick [0] (by decide) rfl) ?_))
        repeat (first
          | ((first | refine TW_plain rfl rfl ?_ | refine TW_gmet rfl rfl rfl rfl ?_); first | refine TN_val (qp rfl) rfl rfl ?_ | refine TN_val (qlen Und.eq rfl) rfl rfl ?_ | refine TN_val (qfld FldC.fld rfl rfl) rfl rfl ?_ | refine TN_val (rr_nilc rfl) rfl rfl ?_ | refine TN_val (rr_eql rfl rfl (qT (by omega))) rfl rfl ?_ | refine TN_val (rr_eql rfl rfl (qF (by omega))) rfl rfl ?_)
          | refine TW_skip rfl rfl rfl rfl rfl rfl rfl ?_ | refine TW_done ?_)
        refine E_pick [6, 7, 8, 9, 10, 11, 4, 5, 12, 13, 1, 3, 2] (by decide) rfl ?_
        exact E_mid (⟨vc2, vr2, vfol2, vl2, vs2, F2⟩, va1, vb1, va2, vb2, g7, g8) hx2 (by repeat' (first | exact True.intro | refine And.intro rfl ?_)) rfl
  clear hI1 hI2 hat1 hat2
  rintro ⟨⟨vc, vr, vfol, vl, vs, F⟩, va1, vb1, va2, vb2, g7, g8⟩ hx2
  have hx2 : vs.length = p2.follow.length := hx2
  dsimp only
  conv => arg 7; simp only [zA, zB, zC, zD, zE, zF, zG, zH, zI, rowS, ret, id_eq, mkL]
  have hl1 := ris_len hp4
  have hl2 := ris_len hp5
  have hl3 := ris_len kp4
  have hl4 := ris_len kp5
  repeat (first
    | refine qv rfl (qp rfl) rfl rfl ?_ | refine TL_nil ?_ | refine T_seq ?_ | refine T_region ?_ | refine qcT rfl ?_ | refine qcF rfl ?_ | refine T_skip ?_
    | refine T_ret ?_ | refine T_block ?_ | refine E_then ?_ | refine E_thenR ?_ | refine E_blockN ?_ | refine E_blockR ?_
    | refine qs rfl rfl rfl rfl rfl rfl ?_
    | ((try refine qg rfl rfl rfl ?_); first | refine qv rfl (qp rfl) rfl rfl ?_ | refine qv rfl (rr_load1 (v := vb1) TyC.ty rfl (at_blk (i := 11) rfl rfl)) rfl rfl ?_ | refine qv rfl (rr_load1 (v := va2) TyC.ty rfl (at_blk (i := 12) rfl rfl)) rfl rfl ?_ | refine qv rfl (qlen Und.eq rfl) rfl rfl ?_ | refine qv rfl (qfld FldC.fld rfl rfl) rfl rfl ?_ | refine qv rfl (rr_nilc rfl) rfl rfl ?_ | refine qv rfl (rr_eql rfl rfl (qT (by omega))) rfl rfl ?_ | refine qv rfl (rr_eql rfl rfl (qF (by omega))) rfl rfl ?_))
  refine TL_callB [0, 3, 4, 7, 8] [1, 2, 5, 6, 9, 10, 11, 12] (by decide) rfl rfl (he3 EntersC.en rfl rfl rfl rfl) (fun w hm hb => behind_calls g vc vr vf vfol vl ve rule vb1 va2 vs F p2.follow last1 first2 w _ hx2 (by rw [kp1.follow]; omega) (by rw [kp1.follow]; exact kp1.ris) (by rw [kp1.follow]; exact ris_mono hp5 kp2) (by rw [kp1.follow]; exact kp4) hb) rfl rfl rfl ?_
  rintro ⟨vs', F'⟩ hx3
  have hx3 : vs'.length = p2.follow.length := hx3
  conv => arg 8; simp only [zA, zB, zC, zD, zE, zF, zG, zH, zI, rowS, ret, id_eq, behSp]
  refine TL_rowv (i := 3) rfl fun ba ca hva _ _ => ?_
  refine TL_rowv (i := 4) rfl fun bb cb hvb _ _ => ?_
  subst hva hvb
  cases e1 with
  | true =>
    cases e2 with
    | true =>
      repeat (first
        | refine qv rfl (qp rfl) rfl rfl ?_ | refine TL_nil ?_ | refine T_seq ?_ | refine T_region ?_ | refine qcT rfl ?_ | refine qcF rfl ?_ | refine T_skip ?_
        | refine T_ret ?_ | refine T_block ?_ | refine E_then ?_ | refine E_thenR ?_ | refine E_blockN ?_ | refine E_blockR ?_
        | refine qs rfl rfl rfl rfl rfl rfl ?_
        | ((try refine qg rfl rfl rfl ?_); first | refine qv rfl (qp rfl) rfl rfl ?_ | refine qv rfl (rr_load1 TyC.ty rfl (at_blk (i := 6) rfl rfl)) rfl rfl ?_ | refine qv rfl (rr_load1 TyC.ty rfl (at_blk (i := 7) rfl rfl)) rfl rfl ?_ | refine qv rfl (rr_build rfl (build_shpA _ _ _ _ _ _ _)) rfl rfl ?_ | refine qv rfl (qlen Und.eq rfl) rfl rfl ?_ | refine qv rfl (qfld FldC.fld rfl rfl) rfl rfl ?_ | refine qv rfl (rr_nilc rfl) rfl rfl ?_ | refine qv rfl (rr_eql rfl rfl (qT (by omega))) rfl rfl ?_ | refine qv rfl (rr_eql rfl rfl (qF (by omega))) rfl rfl ?_))
      refine TL_new rfl fun g11 => ?_
      conv => arg 8; simp only [zA, zB, zC, zD, zE, zF, zG, zH, zI, rowS, ret, id_eq]
      refine TL_storeB (i := 13) (cs' := #[.bool true, .slice ba first1.length ca, .slice bb last2.length cb]) rfl rfl rfl rfl rfl rfl ?_
      conv => arg 8; simp only [zA, zB, zC, zD, zE, zF, zG, zH, zI, rowS, ret, id_eq]
      repeat (first
        | refine qv rfl (qp rfl) rfl rfl ?_ | refine TL_nil ?_ | refine T_seq ?_ | refine T_region ?_ | refine qcT rfl ?_ | refine qcF rfl ?_ | refine T_skip ?_
        | refine T_ret ?_ | refine T_block ?_ | refine E_then ?_ | refine E_thenR ?_ | refine E_blockN ?_ | refine E_blockR ?_
        | refine qs rfl rfl rfl rfl rfl rfl ?_
        | ((try refine qg rfl rfl rfl ?_); first | refine qv rfl (qp rfl) rfl rfl ?_ | refine qv rfl (rr_load1 TyC.ty rfl (at_blk (i := 6) rfl rfl)) rfl rfl ?_ | refine qv rfl (rr_load1 TyC.ty rfl (at_blk (i := 7) rfl rfl)) rfl rfl ?_ | refine qv rfl (qlen Und.eq rfl) rfl rfl ?_ | refine qv rfl (qfld FldC.fld rfl rfl) rfl rfl ?_ | refine qv rfl (rr_nilc rfl) rfl rfl ?_ | refine qv rfl (rr_eql rfl rfl (qT (by omega))) rfl rfl ?_ | refine qv rfl (rr_eql rfl rfl (qF (by omega))) rfl rfl ?_))
      refine TL_call (he2 EntersC.en rfl rfl rfl) (fun w' hm => union_calls _ va2 first1 first2 w' (Sl.of_own (hm.get (i := 3) rfl)) (Sl.of_own (hm.get (i := 12) rfl)) (by omega) (by omega)) rfl rfl rfl ?_
      intro vu _
      conv => arg 8; simp only [zA, zB, zC, zD, zE, zF, zG, zH, zI, rowS, ret, id_eq, intRS]
      repeat (first
        | refine qv rfl (qp rfl) rfl rfl ?_ | refine TL_nil ?_ | refine T_seq ?_ | refine T_region ?_ | refine qcT rfl ?_ | refine qcF rfl ?_ | refine T_skip ?_
        | refine T_ret ?_ | refine T_block ?_ | refine E_then ?_ | refine E_thenR ?_ | refine E_blockN ?_ | refine E_blockR ?_
        | refine qs rfl rfl rfl rfl rfl rfl ?_
        | ((try refine qg rfl rfl rfl ?_); first | refine qv rfl (qp rfl) rfl rfl ?_ | refine qv rfl (qlen Und.eq rfl) rfl rfl ?_ | refine qv rfl (qfld FldC.fld rfl rfl) rfl rfl ?_ | refine qv rfl (rr_nilc rfl) rfl rfl ?_ | refine qv rfl (rr_eql rfl rfl (qT (by omega))) rfl rfl ?_ | refine qv rfl (rr_eql rfl rfl (qF (by omega))) rfl rfl ?_))
      refine TL_slv (i := 14) rfl fun qu1 qu2 => TL_store1 (i := 13) rfl rfl rfl qu1 qu2 rfl ?_
      conv => arg 8; simp only [zA, zB, zC, zD, zE, zF, zG, zH, zI, rowS, ret, id_eq]
      repeat (first
        | refine qv rfl (qp rfl) rfl rfl ?_ | refine TL_nil ?_ | refine T_seq ?_ | refine T_region ?_ | refine qcT rfl ?_ | refine qcF rfl ?_ | refine T_skip ?_
        | refine T_ret ?_ | refine T_block ?_ | refine E_then ?_ | refine E_thenR ?_ | refine E_blockN ?_ | refine E_blockR ?_
        | refine qs rfl rfl rfl rfl rfl rfl ?_
        | ((try refine qg rfl rfl rfl ?_); first | refine qv rfl (qp rfl) rfl rfl ?_ | refine qv rfl (rr_load1 TyC.ty rfl (at_blk (i := 6) rfl rfl)) rfl rfl ?_ | refine qv rfl (rr_load1 TyC.ty rfl (at_blk (i := 7) rfl rfl)) rfl rfl ?_ | refine qv rfl (qlen Und.eq rfl) rfl rfl ?_ | refine qv rfl (qfld FldC.fld rfl rfl) rfl rfl ?_ | refine qv rfl (rr_nilc rfl) rfl rfl ?_ | refine qv rfl (rr_eql rfl rfl (qT (by omega))) rfl rfl ?_ | refine qv rfl (rr_eql rfl rfl (qF (by omega))) rfl rfl ?_))
      refine TL_call (he2 EntersC.en rfl rfl rfl) (fun w' hm => union_calls vb1 _ last1 last2 w' (Sl.of_own (hm.get (i := 11) rfl)) (Sl.of_own (hm.get (i := 4) rfl)) (by omega) (by omega)) rfl rfl rfl ?_
      intro vu2 _
      conv => arg 8; simp only [zA, zB, zC, zD, zE, zF, zG, zH, zI, rowS, ret, id_eq, intRS]
      repeat (first
        | refine qv rfl (qp rfl) rfl rfl ?_ | refine TL_nil ?_ | refine T_seq ?_ | refine T_region ?_ | refine qcT rfl ?_ | refine qcF rfl ?_ | refine T_skip ?_
        | refine T_ret ?_ | refine T_block ?_ | refine E_then ?_ | refine E_thenR ?_ | refine E_blockN ?_ | refine E_blockR ?_
        | refine qs rfl rfl rfl rfl rfl rfl ?_
        | ((try refine qg rfl rfl rfl ?_); first | refine qv rfl (qp rfl) rfl rfl ?_ | refine qv rfl (qlen Und.eq rfl) rfl rfl ?_ | refine qv rfl (qfld FldC.fld rfl rfl) rfl rfl ?_ | refine qv rfl (rr_nilc rfl) rfl rfl ?_ | refine qv rfl (rr_eql rfl rfl (qT (by omega))) rfl rfl ?_ | refine qv rfl (rr_eql rfl rfl (qF (by omega))) rfl rfl ?_))
      refine TL_slv (i := 15) rfl fun qv1 qv2 => TL_store1 (i := 13) rfl rfl rfl qv1 qv2 rfl ?_
      conv => arg 8; simp only [zA, zB, zC, zD, zE, zF, zG, zH, zI, rowS, ret, id_eq]
      repeat (first
        | refine qv rfl (qp rfl) rfl rfl ?_ | refine TL_nil ?_ | refine T_seq ?_ | refine T_region ?_ | refine qcT rfl ?_ | refine qcF rfl ?_ | refine T_skip ?_
        | refine T_ret ?_ | refine T_block ?_ | refine E_then ?_ | refine E_thenR ?_ | refine E_blockN ?_ | refine E_blockR ?_
        | refine qs rfl rfl rfl rfl rfl rfl ?_
        | ((try refine qg rfl rfl rfl ?_); first | refine qv rfl (qp rfl) rfl rfl ?_ | refine qv rfl (rr_loadB (i := 13) TyC.ty rfl rfl rfl) rfl rfl ?_ | refine qv rfl (rr_load1 TyC.ty rfl (at_blk (i := 6) rfl rfl)) rfl rfl ?_ | refine qv rfl (rr_load1 TyC.ty rfl (at_blk (i := 7) rfl rfl)) rfl rfl ?_ | refine qv rfl (qlen Und.eq rfl) rfl rfl ?_ | refine qv rfl (qfld FldC.fld rfl rfl) rfl rfl ?_ | refine qv rfl (rr_nilc rfl) rfl rfl ?_ | refine qv rfl (rr_eql rfl rfl (qT (by omega))) rfl rfl ?_ | refine qv rfl (rr_eql rfl rfl (qF (by omega))) rfl rfl ?_))
      refine TL_storeB (i := 5) (cs' := #[.bool true, vu, vu2]) rfl rfl rfl rfl (by simp only [List.all_cons, List.all_nil, qu2, qv2]; rfl) rfl ?_
      conv => arg 8; simp only [zA, zB, zC, zD, zE, zF, zG, zH, zI, rowS, ret, id_eq]
      repeat (first
        | refine qv rfl (qp rfl) rfl rfl ?_ | refine TL_nil ?_ | refine T_seq ?_ | refine T_region ?_ | refine qcT rfl ?_ | refine qcF rfl ?_ | refine T_skip ?_
        | refine T_ret ?_ | refine T_block ?_ | refine E_then ?_ | refine E_thenR ?_ | refine E_blockN ?_ | refine E_blockR ?_
        | refine qs rfl rfl rfl rfl rfl rfl ?_
        | ((try refine qg rfl rfl rfl ?_); first | refine qv rfl (qp rfl) rfl rfl ?_ | refine qv rfl (qlen Und.eq rfl) rfl rfl ?_ | refine qv rfl (qfld FldC.fld rfl rfl) rfl rfl ?_ | refine qv rfl (rr_nilc rfl) rfl rfl ?_ | refine qv rfl (rr_eql rfl rfl (qT (by omega))) rfl rfl ?_ | refine qv rfl (rr_eql rfl rfl (qF (by omega))) rfl rfl ?_))
      refine E_retc1 (i := 5) rfl rfl rfl rfl fun w hm => ?_
      exact hm.meetsB (S := nodeSp g vf ve rule (⟨true, uni first1 first2, uni last1 last2⟩, { p2 with follow := behindF p2.follow last1 first2 })) (⟨vc, vr, vfol, vl, vs', F'⟩, vu, vu2) (by show vs'.length = (behindF p2.follow last1 first2).length; rw [behind_len]; exact hx3) [8, 0, 1, 9, 10, 2, 14, 15] (by decide) rfl
    | false =>
      repeat (first
        | refine qv rfl (qp rfl) rfl rfl ?_ | refine TL_nil ?_ | refine T_seq ?_ | refine T_region ?_ | refine qcT rfl ?_ | refine qcF rfl ?_ | refine T_skip ?_
        | refine T_ret ?_ | refine T_block ?_ | refine E_then ?_ | refine E_thenR ?_ | refine E_blockN ?_ | refine E_blockR ?_
        | refine qs rfl rfl rfl rfl rfl rfl ?_
        | ((try refine qg rfl rfl rfl ?_); first | refine qv rfl (qp rfl) rfl rfl ?_ | refine qv rfl (rr_load1 TyC.ty rfl (at_blk (i := 6) rfl rfl)) rfl rfl ?_ | refine qv rfl (rr_load1 TyC.ty rfl (at_blk (i := 7) rfl rfl)) rfl rfl ?_ | refine qv rfl (rr_build rfl (build_shpA _ _ _ _ _ _ _)) rfl rfl ?_ | refine qv rfl (qlen Und.eq rfl) rfl rfl ?_ | refine qv rfl (qfld FldC.fld rfl rfl) rfl rfl ?_ | refine qv rfl (rr_nilc rfl) rfl rfl ?_ | refine qv rfl (rr_eql rfl rfl (qT (by omega))) rfl rfl ?_ | refine qv rfl (rr_eql rfl rfl (qF (by omega))) rfl rfl ?_))
      refine TL_new rfl fun g11 => ?_
      conv => arg 8; simp only [zA, zB, zC, zD, zE, zF, zG, zH, zI, rowS, ret, id_eq]
      refine TL_storeB (i := 13) (cs' := #[.bool false, .slice ba first1.length ca, .slice bb last2.length cb]) rfl rfl rfl rfl rfl rfl ?_
      conv => arg 8; simp only [zA, zB, zC, zD, zE, zF, zG, zH, zI, rowS, ret, id_eq]
      repeat (first
        | refine qv rfl (qp rfl) rfl rfl ?_ | refine TL_nil ?_ | refine T_seq ?_ | refine T_region ?_ | refine qcT rfl ?_ | refine qcF rfl ?_ | refine T_skip ?_
        | refine T_ret ?_ | refine T_block ?_ | refine E_then ?_ | refine E_thenR ?_ | refine E_blockN ?_ | refine E_blockR ?_
        | refine qs rfl rfl rfl rfl rfl rfl ?_
        | ((try refine qg rfl rfl rfl ?_); first | refine qv rfl (qp rfl) rfl rfl ?_ | refine qv rfl (rr_load1 TyC.ty rfl (at_blk (i := 6) rfl rfl)) rfl rfl ?_ | refine qv rfl (rr_load1 TyC.ty rfl (at_blk (i := 7) rfl rfl)) rfl rfl ?_ | refine qv rfl (qlen Und.eq rfl) rfl rfl ?_ | refine qv rfl (qfld FldC.fld rfl rfl) rfl rfl ?_ | refine qv rfl (rr_nilc rfl) rfl rfl ?_ | refine qv rfl (rr_eql rfl rfl (qT (by omega))) rfl rfl ?_ | refine qv rfl (rr_eql rfl rfl (qF (by omega))) rfl rfl ?_))
      refine TL_call (he2 EntersC.en rfl rfl rfl) (fun w' hm => union_calls _ va2 first1 first2 w' (Sl.of_own (hm.get (i := 3) rfl)) (Sl.of_own (hm.get (i := 12) rfl)) (by omega) (by omega)) rfl rfl rfl ?_
      intro vu _
      conv => arg 8; simp only [zA, zB, zC, zD, zE, zF, zG, zH, zI, rowS, ret, id_eq, intRS]
      repeat (first
        | refine qv rfl (qp rfl) rfl rfl ?_ | refine TL_nil ?_ | refine T_seq ?_ | refine T_region ?_ | refine qcT rfl ?_ | refine qcF rfl ?_ | refine T_skip ?_
        | refine T_ret ?_ | refine T_block ?_ | refine E_then ?_ | refine E_thenR ?_ | refine E_blockN ?_ | refine E_blockR ?_
        | refine qs rfl rfl rfl rfl rfl rfl ?_
        | ((try refine qg rfl rfl rfl ?_); first | refine qv rfl (qp rfl) rfl rfl ?_ | refine qv rfl (qlen Und.eq rfl) rfl rfl ?_ | refine qv rfl (qfld FldC.fld rfl rfl) rfl rfl ?_ | refine qv rfl (rr_nilc rfl) rfl rfl ?_ | refine qv rfl (rr_eql rfl rfl (qT (by omega))) rfl rfl ?_ | refine qv rfl (rr_eql rfl rfl (qF (by omega))) rfl rfl ?_))
      refine TL_slv (i := 14) rfl fun qu1 qu2 => TL_store1 (i := 13) rfl rfl rfl qu1 qu2 rfl ?_
      conv => arg 8; simp only [zA, zB, zC, zD, zE, zF, zG, zH, zI, rowS, ret, id_eq]
      repeat (first
        | refine qv rfl (qp rfl) rfl rfl ?_ | refine TL_nil ?_ | refine T_seq ?_ | refine T_region ?_ | refine qcT rfl ?_ | refine qcF rfl ?_ | refine T_skip ?_
        | refine T_ret ?_ | refine T_block ?_ | refine E_then ?_ | refine E_thenR ?_ | refine E_blockN ?_ | refine E_blockR ?_
        | refine qs rfl rfl rfl rfl rfl rfl ?_
        | ((try refine qg rfl rfl rfl ?_); first | refine qv rfl (qp rfl) rfl rfl ?_ | refine qv rfl (rr_loadB (i := 13) TyC.ty rfl rfl rfl) rfl rfl ?_ | refine qv rfl (rr_load1 TyC.ty rfl (at_blk (i := 6) rfl rfl)) rfl rfl ?_ | refine qv rfl (rr_load1 TyC.ty rfl (at_blk (i := 7) rfl rfl)) rfl rfl ?_ | refine qv rfl (qlen Und.eq rfl) rfl rfl ?_ | refine qv rfl (qfld FldC.fld rfl rfl) rfl rfl ?_ | refine qv rfl (rr_nilc rfl) rfl rfl ?_ | refine qv rfl (rr_eql rfl rfl (qT (by omega))) rfl rfl ?_ | refine qv rfl (rr_eql rfl rfl (qF (by omega))) rfl rfl ?_))
      refine TL_storeB (i := 5) (cs' := #[.bool false, vu, .slice bb last2.length cb]) rfl rfl rfl rfl (by simp only [List.all_cons, List.all_nil, qu2]; rfl) rfl ?_
      conv => arg 8; simp only [zA, zB, zC, zD, zE, zF, zG, zH, zI, rowS, ret, id_eq]
      repeat (first
        | refine qv rfl (qp rfl) rfl rfl ?_ | refine TL_nil ?_ | refine T_seq ?_ | refine T_region ?_ | refine qcT rfl ?_ | refine qcF rfl ?_ | refine T_skip ?_
        | refine T_ret ?_ | refine T_block ?_ | refine E_then ?_ | refine E_thenR ?_ | refine E_blockN ?_ | refine E_blockR ?_
        | refine qs rfl rfl rfl rfl rfl rfl ?_
        | ((try refine qg rfl rfl rfl ?_); first | refine qv rfl (qp rfl) rfl rfl ?_ | refine qv rfl (qlen Und.eq rfl) rfl rfl ?_ | refine qv rfl (qfld FldC.fld rfl rfl) rfl rfl ?_ | refine qv rfl (rr_nilc rfl) rfl rfl ?_ | refine qv rfl (rr_eql rfl rfl (qT (by omega))) rfl rfl ?_ | refine qv rfl (rr_eql rfl rfl (qF (by omega))) rfl rfl ?_))
      refine E_retc1 (i := 5) rfl rfl rfl rfl fun w hm => ?_
      exact hm.meetsB (S := nodeSp g vf ve rule (⟨false, uni first1 first2, last2⟩, { p2 with follow := behindF p2.follow last1 first2 })) (⟨vc, vr, vfol, vl, vs', F'⟩, vu, .slice bb last2.length cb) (by show vs'.length = (behindF p2.follow last1 first2).length; rw [behind_len]; exact hx3) [8, 0, 1, 9, 10, 2, 14, 4] (by decide) rfl
  | false =>
    cases e2 with
    | true =>
      repeat (first
        | refine qv rfl (qp rfl) rfl rfl ?_ | refine TL_nil ?_ | refine T_seq ?_ | refine T_region ?_ | refine qcT rfl ?_ | refine qcF rfl ?_ | refine T_skip ?_
        | refine T_ret ?_ | refine T_block ?_ | refine E_then ?_ | refine E_thenR ?_ | refine E_blockN ?_ | refine E_blockR ?_
        | refine qs rfl rfl rfl rfl rfl rfl ?_
        | ((try refine qg rfl rfl rfl ?_); first | refine qv rfl (qp rfl) rfl rfl ?_ | refine qv rfl (rr_load1 TyC.ty rfl (at_blk (i := 6) rfl rfl)) rfl rfl ?_ | refine qv rfl (rr_load1 TyC.ty rfl (at_blk (i := 7) rfl rfl)) rfl rfl ?_ | refine qv rfl (rr_build rfl (build_shpA _ _ _ _ _ _ _)) rfl rfl ?_ | refine qv rfl (qlen Und.eq rfl) rfl rfl ?_ | refine qv rfl (qfld FldC.fld rfl rfl) rfl rfl ?_ | refine qv rfl (rr_nilc rfl) rfl rfl ?_ | refine qv rfl (rr_eql rfl rfl (qT (by omega))) rfl rfl ?_ | refine qv rfl (rr_eql rfl rfl (qF (by omega))) rfl rfl ?_))
      refine TL_new rfl fun g11 => ?_
      conv => arg 8; simp only [zA, zB, zC, zD, zE, zF, zG, zH, zI, rowS, ret, id_eq]
      refine TL_storeB (i := 13) (cs' := #[.bool false, .slice ba first1.length ca, .slice bb last2.length cb]) rfl rfl rfl rfl rfl rfl ?_
      conv => arg 8; simp only [zA, zB, zC, zD, zE, zF, zG, zH, zI, rowS, ret, id_eq]
      repeat (first
        | refine qv rfl (qp rfl) rfl rfl ?_ | refine TL_nil ?_ | refine T_seq ?_ | refine T_region ?_ | refine qcT rfl ?_ | refine qcF rfl ?_ | refine T_skip ?_
        | refine T_ret ?_ | refine T_block ?_ | refine E_then ?_ | refine E_thenR ?_ | refine E_blockN ?_ | refine E_blockR ?_
        | refine qs rfl rfl rfl rfl rfl rfl ?_
        | ((try refine qg rfl rfl rfl ?_); first | refine qv rfl (qp rfl) rfl rfl ?_ | refine qv rfl (rr_load1 TyC.ty rfl (at_blk (i := 6) rfl rfl)) rfl rfl ?_ | refine qv rfl (rr_load1 TyC.ty rfl (at_blk (i := 7) rfl rfl)) rfl rfl ?_ | refine qv rfl (qlen Und.eq rfl) rfl rfl ?_ | refine qv rfl (qfld FldC.fld rfl rfl) rfl rfl ?_ | refine qv rfl (rr_nilc rfl) rfl rfl ?_ | refine qv rfl (rr_eql rfl rfl (qT (by omega))) rfl rfl ?_ | refine qv rfl (rr_eql rfl rfl (qF (by omega))) rfl rfl ?_))
      refine TL_call (he2 EntersC.en rfl rfl rfl) (fun w' hm => union_calls vb1 _ last1 last2 w' (Sl.of_own (hm.get (i := 11) rfl)) (Sl.of_own (hm.get (i := 4) rfl)) (by omega) (by omega)) rfl rfl rfl ?_
      intro vu2 _
      conv => arg 8; simp only [zA, zB, zC, zD, zE, zF, zG, zH, zI, rowS, ret, id_eq, intRS]
      repeat (first
        | refine qv rfl (qp rfl) rfl rfl ?_ | refine TL_nil ?_ | refine T_seq ?_ | refine T_region ?_ | refine qcT rfl ?_ | refine qcF rfl ?_ | refine T_skip ?_
        | refine T_ret ?_ | refine T_block ?_ | refine E_then ?_ | refine E_thenR ?_ | refine E_blockN ?_ | refine E_blockR ?_
        | refine qs rfl rfl rfl rfl rfl rfl ?_
        | ((try refine qg rfl rfl rfl ?_); first | refine qv rfl (qp rfl) rfl rfl ?_ | refine qv rfl (qlen Und.eq rfl) rfl rfl ?_ | refine qv rfl (qfld FldC.fld rfl rfl) rfl rfl ?_ | refine qv rfl (rr_nilc rfl) rfl rfl ?_ | refine qv rfl (rr_eql rfl rfl (qT (by omega))) rfl rfl ?_ | refine qv rfl (rr_eql rfl rfl (qF (by omega))) rfl rfl ?_))
      refine TL_slv (i := 14) rfl fun qv1 qv2 => TL_store1 (i := 13) rfl rfl rfl qv1 qv2 rfl ?_
      conv => arg 8; simp only [zA, zB, zC, zD, zE, zF, zG, zH, zI, rowS, ret, id_eq]
      repeat (first
        | refine qv rfl (qp rfl) rfl rfl ?_ | refine TL_nil ?_ | refine T_seq ?_ | refine T_region ?_ | refine qcT rfl ?_ | refine qcF rfl ?_ | refine T_skip ?_
        | refine T_ret ?_ | refine T_block ?_ | refine E_then ?_ | refine E_thenR ?_ | refine E_blockN ?_ | refine E_blockR ?_
        | refine qs rfl rfl rfl rfl rfl rfl ?_
        | ((try refine qg rfl rfl rfl ?_); first | refine qv rfl (qp rfl) rfl rfl ?_ | refine qv rfl (rr_loadB (i := 13) TyC.ty rfl rfl rfl) rfl rfl ?_ | refine qv rfl (rr_load1 TyC.ty rfl (at_blk (i := 6) rfl rfl)) rfl rfl ?_ | refine qv rfl (rr_load1 TyC.ty rfl (at_blk (i := 7) rfl rfl)) rfl rfl ?_ | refine qv rfl (qlen Und.eq rfl) rfl rfl ?_ | refine qv rfl (qfld FldC.fld rfl rfl) rfl rfl ?_ | refine qv rfl (rr_nilc rfl) rfl rfl ?_ | refine qv rfl (rr_eql rfl rfl (qT (by omega))) rfl rfl ?_ | refine qv rfl (rr_eql rfl rfl (qF (by omega))) rfl rfl ?_))
      refine TL_storeB (i := 5) (cs' := #[.bool false, .slice ba first1.length ca, vu2]) rfl rfl rfl rfl (by simp only [List.all_cons, List.all_nil, qv2]; rfl) rfl ?_
      conv => arg 8; simp only [zA, zB, zC, zD, zE, zF, zG, zH, zI, rowS, ret, id_eq]
      repeat (first
        | refine qv rfl (qp rfl) rfl rfl ?_ | refine TL_nil ?_ | refine T_seq ?_ | refine T_region ?_ | refine qcT rfl ?_ | refine qcF rfl ?_ | refine T_skip ?_
        | refine T_ret ?_ | refine T_block ?_ | refine E_then ?_ | refine E_thenR ?_ | refine E_blockN ?_ | refine E_blockR ?_
        | refine qs rfl rfl rfl rfl rfl rfl ?_
        | ((try refine qg rfl rfl rfl ?_); first | refine qv rfl (qp rfl) rfl rfl ?_ | refine qv rfl (qlen Und.eq rfl) rfl rfl ?_ | refine qv rfl (qfld FldC.fld rfl rfl) rfl rfl ?_ | refine qv rfl (rr_nilc rfl) rfl rfl ?_ | refine qv rfl (rr_eql rfl rfl (qT (by omega))) rfl rfl ?_ | refine qv rfl (rr_eql rfl rfl (qF (by omega))) rfl rfl ?_))
      refine E_retc1 (i := 5) rfl rfl rfl rfl fun w hm => ?_
      exact hm.meetsB (S := nodeSp g vf ve rule (⟨false, first1, uni last1 last2⟩, { p2 with follow := behindF p2.follow last1 first2 })) (⟨vc, vr, vfol, vl, vs', F'⟩, .slice ba first1.length ca, vu2) (by show vs'.length = (behindF p2.follow last1 first2).length; rw [behind_len]; exact hx3) [8, 0, 1, 9, 10, 2, 3, 14] (by decide) rfl
    | false =>
      repeat (first
        | refine qv rfl (qp rfl) rfl rfl ?_ | refine TL_nil ?_ | refine T_seq ?_ | refine T_region ?_ | refine qcT rfl ?_ | refine qcF rfl ?_ | refine T_skip ?_
        | refine T_ret ?_ | refine T_block ?_ | refine E_then ?_ | refine E_thenR ?_ | refine E_blockN ?_ | refine E_blockR ?_
        | refine qs rfl rfl rfl rfl rfl rfl ?_
        | ((try refine qg rfl rfl rfl ?_); first | refine qv rfl (qp rfl) rfl rfl ?_ | refine qv rfl (rr_load1 TyC.ty rfl (at_blk (i := 6) rfl rfl)) rfl rfl ?_ | refine qv rfl (rr_load1 TyC.ty rfl (at_blk (i := 7) rfl rfl)) rfl rfl ?_ | refine qv rfl (rr_build rfl (build_shpA _ _ _ _ _ _ _)) rfl rfl ?_ | refine qv rfl (qlen Und.eq rfl) rfl rfl ?_ | refine qv rfl (qfld FldC.fld rfl rfl) rfl rfl ?_ | refine qv rfl (rr_nilc rfl) rfl rfl ?_ | refine qv rfl (rr_eql rfl rfl (qT (by omega))) rfl rfl ?_ | refine qv rfl (rr_eql rfl rfl (qF (by omega))) rfl rfl ?_))
      refine TL_new rfl fun g11 => ?_
      conv => arg 8; simp only [zA, zB, zC, zD, zE, zF, zG, zH, zI, rowS, ret, id_eq]
      refine TL_storeB (i := 13) (cs' := #[.bool false, .slice ba first1.length ca, .slice bb last2.length cb]) rfl rfl rfl rfl rfl rfl ?_
      conv => arg 8; simp only [zA, zB, zC, zD, zE, zF, zG, zH, zI, rowS, ret, id_eq]
      repeat (first
        | refine qv rfl (qp rfl) rfl rfl ?_ | refine TL_nil ?_ | refine T_seq ?_ | refine T_region ?_ | refine qcT rfl ?_ | refine qcF rfl ?_ | refine T_skip ?_
        | refine T_ret ?_ | refine T_block ?_ | refine E_then ?_ | refine E_thenR ?_ | refine E_blockN ?_ | refine E_blockR ?_
        | refine qs rfl rfl rfl rfl rfl rfl ?_
        | ((try refine qg rfl rfl rfl ?_); first | refine qv rfl (qp rfl) rfl rfl ?_ | refine qv rfl (rr_loadB (i := 13) TyC.ty rfl rfl rfl) rfl rfl ?_ | refine qv rfl (rr_load1 TyC.ty rfl (at_blk (i := 6) rfl rfl)) rfl rfl ?_ | refine qv rfl (rr_load1 TyC.ty rfl (at_blk (i := 7) rfl rfl)) rfl rfl ?_ | refine qv rfl (qlen Und.eq rfl) rfl rfl ?_ | refine qv rfl (qfld FldC.fld rfl rfl) rfl rfl ?_ | refine qv rfl (rr_nilc rfl) rfl rfl ?_ | refine qv rfl (rr_eql rfl rfl (qT (by omega))) rfl rfl ?_ | refine qv rfl (rr_eql rfl rfl (qF (by omega))) rfl rfl ?_))
      refine TL_storeB (i := 5) (cs' := #[.bool false, .slice ba first1.length ca, .slice bb last2.length cb]) rfl rfl rfl rfl rfl rfl ?_
      conv => arg 8; simp only [zA, zB, zC, zD, zE, zF, zG, zH, zI, rowS, ret, id_eq]
      repeat (first
        | refine qv rfl (qp rfl) rfl rfl ?_ | refine TL_nil ?_ | refine T_seq ?_ | refine T_region ?_ | refine qcT rfl ?_ | refine qcF rfl ?_ | refine T_skip ?_
        | refine T_ret ?_ | refine T_block ?_ | refine E_then ?_ | refine E_thenR ?_ | refine E_blockN ?_ | refine E_blockR ?_
        | refine qs rfl rfl rfl rfl rfl rfl ?_
        | ((try refine qg rfl rfl rfl ?_); first | refine qv rfl (qp rfl) rfl rfl ?_ | refine qv rfl (qlen Und.eq rfl) rfl rfl ?_ | refine qv rfl (qfld FldC.fld rfl rfl) rfl rfl ?_ | refine qv rfl (rr_nilc rfl) rfl rfl ?_ | refine qv rfl (rr_eql rfl rfl (qT (by omega))) rfl rfl ?_ | refine qv rfl (rr_eql rfl rfl (qF (by omega))) rfl rfl ?_))
      refine E_retc1 (i := 5) rfl rfl rfl rfl fun w hm => ?_
      exact hm.meetsB (S := nodeSp g vf ve rule (⟨false, first1, last2⟩, { p2 with follow := behindF p2.follow last1 first2 })) (⟨vc, vr, vfol, vl, vs', F'⟩, .slice ba first1.length ca, .slice bb last2.length cb) (by show vs'.length = (behindF p2.follow last1 first2).length; rw [behind_len]; exact hx3) [8, 0, 1, 9, 10, 2, 3, 4] (by decide) rfl
end Go.Proofs.Ytknojgjdaafboaa.eng

/- PlD -/
namespace Go.Proofs.Ytknojgjdaafboaa.eng
open Go.RowKit kit mix classL rexL placesL
theorem node_at : ∀ M, NodeAt M
  | 0 => fun e h => by have := e.size_pos; omega
  | M + 1 => fun e h g vf ve rule p x v w B hp hx hn hr hv hm => by
    cases e with
    | none => exact node_none g vf ve rule p x v w B hx hv hm
    | empty => exact node_empty g vf ve rule p x v w B hx hv hm
    | byte c => exact node_byte c g vf ve rule p x v w B hp hx (by omega) hv hm
    | star a =>
      have h : a.size + 1 ≤ M + 1 := h
      exact node_star (node_at M) a (by omega) g vf ve rule p x v w B hp hx hn hr hv hm
    | alt a b =>
      have h : a.size + b.size + 1 ≤ M + 1 := h
      exact node_alt (node_at M) a b (by omega) (by omega) g vf ve rule p x v w B hp hx hn hr hv hm
    | cat a b =>
      have h : a.size + b.size + 1 ≤ M + 1 := h
      exact node_cat (node_at M) a b (by omega) (by omega) g vf ve rule p x v w B hp hx hn hr hv hm
end Go.Proofs.Ytknojgjdaafboaa.eng

/- ClsEq -/
namespace Go.Proofs.Ytknojgjdaafboaa.classSets
open Go.RowKit kit mix classL eng
set_option maxRecDepth 100000 in
theorem eq_cls (x y : C4) (w : World) : (Op.equalIn 10000 31 (.agg #[v64 x.a, v64 x.b, v64 x.c, v64 x.d]) (.agg #[v64 y.a, v64 y.b, v64 y.c, v64 y.d])).run Try.prog w = .ok (decide (x = y)) w := by
  have e : (Op.equalIn 10000 31 (.agg #[v64 x.a, v64 x.b, v64 x.c, v64 x.d]) (.agg #[v64 y.a, v64 y.b, v64 y.c, v64 y.d])).run Try.prog w = .ok ((n64 x.a == n64 y.a) && ((n64 x.b == n64 y.b) && ((n64 x.c == n64 y.c) && (n64 x.d == n64 y.d)))) w := by
    unfold v64
    rw [run_equalIn_array (P := Try.prog) w 9999 (n := 4) (e := 29) _ _ rfl rfl]
    have h1 : Try.prog.cellsOf 29 = 1 := rfl
    simp [Op.eqItems, go_sem, List.range_succ_eq_map, h1]
    by_cases e1 : n64 x.a = n64 y.a <;> by_cases e2 : n64 x.b = n64 y.b <;> by_cases e3 : n64 x.c = n64 y.c <;> by_cases e4 : n64 x.d = n64 y.d <;> simp [e1, e2, e3, e4]
  rw [e]
  congr 1
  by_cases h : x = y
  · subst h; simp
  · rw [decide_eq_false h]
    simp only [n64_eq, Bool.and_eq_false_iff]
    by_cases h1 : x.a = y.a
    · by_cases h2 : x.b = y.b
      · by_cases h3 : x.c = y.c
        · by_cases h4 : x.d = y.d
          · exact absurd (C4.ext' h1 h2 h3 h4) h
          · simp [h4]
        · simp [h3]
      · simp [h2]
    · simp [h1]
end Go.Proofs.Ytknojgjdaafboaa.classSets

/- RexC -/
namespace Go.Proofs.Ytknojgjdaafboaa.eng
open Go.RowKit kit mix classL rexL
theorem rkids_calls (k : Int) (w : World) : Calls Try.prog 29 #[.int .i64 k] w (Meets (ret (.int .i64 (kidsN k))) w) := by
  unfold kidsN
  refine enter (args := [.int .i64 k]) (n := 13) Try.func29 rfl rfl rfl ?_
  by_cases k1 : k = 1
  · rw [if_pos k1]
    repeat (first
      | refine qv rfl (qp rfl) rfl rfl ?_ | refine TL_nil ?_ | refine T_seq ?_ | refine T_region ?_ | refine qcT rfl ?_ | refine qcF rfl ?_ | refine T_skip ?_
      | refine T_ret ?_ | refine T_block ?_ | refine E_then ?_ | refine E_thenR ?_ | refine E_blockN ?_ | refine E_blockR ?_
      | refine qv rfl (rr_eql rfl rfl (qT (by omega))) rfl rfl ?_ | refine qv rfl (rr_eql rfl rfl (qF (by omega))) rfl rfl ?_)
    exact E_ret1 rfl rfl fun w hm => hm.ret
  rw [if_neg k1]
  by_cases k2 : k = 2
  · rw [if_pos k2]
    repeat (first
      | refine qv rfl (qp rfl) rfl rfl ?_ | refine TL_nil ?_ | refine T_seq ?_ | refine T_region ?_ | refine qcT rfl ?_ | refine qcF rfl ?_ | refine T_skip ?_
      | refine T_ret ?_ | refine T_block ?_ | refine E_then ?_ | refine E_thenR ?_ | refine E_blockN ?_ | refine E_blockR ?_
      | refine qv rfl (rr_eql rfl rfl (qT (by omega))) rfl rfl ?_ | refine qv rfl (rr_eql rfl rfl (qF (by omega))) rfl rfl ?_)
    exact E_ret1 rfl rfl fun w hm => hm.ret
  rw [if_neg k2]
  by_cases k3 : k = 3
  · rw [if_pos k3]
    repeat (first
      | refine qv rfl (qp rfl) rfl rfl ?_ | refine TL_nil ?_ | refine T_seq ?_ | refine T_region ?_ | refine qcT rfl ?_ | refine qcF rfl ?_ | refine T_skip ?_
      | refine T_ret ?_ | refine T_block ?_ | refine E_then ?_ | refine E_thenR ?_ | refine E_blockN ?_ | refine E_blockR ?_
      | refine qv rfl (rr_eql rfl rfl (qT (by omega))) rfl rfl ?_ | refine qv rfl (rr_eql rfl rfl (qF (by omega))) rfl rfl ?_)
    exact E_ret1 rfl rfl fun w hm => hm.ret
  rw [if_neg k3]
  by_cases k6 : k = 6
  · rw [if_pos k6]
    repeat (first
      | refine qv rfl (qp rfl) rfl rfl ?_ | refine TL_nil ?_ | refine T_seq ?_ | refine T_region ?_ | refine qcT rfl ?_ | refine qcF rfl ?_ | refine T_skip ?_
      | refine T_ret ?_ | refine T_block ?_ | refine E_then ?_ | refine E_thenR ?_ | refine E_blockN ?_ | refine E_blockR ?_
      | refine qv rfl (rr_eql rfl rfl (qT (by omega))) rfl rfl ?_ | refine qv rfl (rr_eql rfl rfl (qF (by omega))) rfl rfl ?_)
    exact E_ret1 rfl rfl fun w hm => hm.ret
  rw [if_neg k6]
  by_cases k4 : k = 4
  · rw [if_pos k4]
    repeat (first
      | refine qv rfl (qp rfl) rfl rfl ?_ | refine TL_nil ?_ | refine T_seq ?_ | refine T_region ?_ | refine qcT rfl ?_ | refine qcF rfl ?_ | refine T_skip ?_
      | refine T_ret ?_ | refine T_block ?_ | refine E_then ?_ | refine E_thenR ?_ | refine E_blockN ?_ | refine E_blockR ?_
      | refine qv rfl (rr_eql rfl rfl (qT (by omega))) rfl rfl ?_ | refine qv rfl (rr_eql rfl rfl (qF (by omega))) rfl rfl ?_)
    exact E_ret1 rfl rfl fun w hm => hm.ret
  rw [if_neg k4]
  by_cases k5 : k = 5
  · rw [if_pos k5]
    repeat (first
      | refine qv rfl (qp rfl) rfl rfl ?_ | refine TL_nil ?_ | refine T_seq ?_ | refine T_region ?_ | refine qcT rfl ?_ | refine qcF rfl ?_ | refine T_skip ?_
      | refine T_ret ?_ | refine T_block ?_ | refine E_then ?_ | refine E_thenR ?_ | refine E_blockN ?_ | refine E_blockR ?_
      | refine qv rfl (rr_eql rfl rfl (qT (by omega))) rfl rfl ?_ | refine qv rfl (rr_eql rfl rfl (qF (by omega))) rfl rfl ?_)
    exact E_ret1 rfl rfl fun w hm => hm.ret
  rw [if_neg k5]
  repeat (first
    | refine qv rfl (qp rfl) rfl rfl ?_ | refine TL_nil ?_ | refine T_seq ?_ | refine T_region ?_ | refine qcT rfl ?_ | refine qcF rfl ?_ | refine T_skip ?_
    | refine T_ret ?_ | refine T_block ?_ | refine E_then ?_ | refine E_thenR ?_ | refine E_blockN ?_ | refine E_blockR ?_
    | refine qv rfl (rr_eql rfl rfl (qT (by omega))) rfl rfl ?_ | refine qv rfl (rr_eql rfl rfl (qF (by omega))) rfl rfl ?_)
  exact E_ret1 rfl rfl fun w hm => hm.ret
theorem chk_le {r : Rx} {deep n : Nat} (h : (chk r deep n).1 = 0) : (chk r deep n).2 ≤ 100 := by
  obtain ⟨e, _, h1, h2⟩ := chk_fit _ r deep n (chk r deep n).2 (Nat.le_refl _) (Prod.ext h rfl)
  have := h1.sz
  omega
theorem build_cz (w : World) : (Instr.build 31 (#[] : Array (Nat × Value))).run Try.prog w = .ok (clsV C4.zero) w := by kernel_rfl
theorem eqCls (x y : C4) (w : World) : (Op.equalIn 10000 31 (clsV x) (clsV y)).run Try.prog w = .ok (decide (x = y)) w := classSets.eq_cls x y w
theorem at_oldR {W0 : World} {W : Base} {L : List Own} {b off : Nat} {cs : List Value} (ho : Old W0 W) (h : Rd W0 b off cs) (j : Nat) (v : Value) (hj : cs[j]? = some v) : At W L ⟨b, off + j, none⟩ v := at_old0 ho (h j v hj)
theorem rex_cls {k : Int} {c : C4} {vk : Value} {j : Nat} {v : Value} (h : (clsL c)[j]? = some v) : (rexC k c vk).toArray[0 + 1 + j]? = some v := by
  have hj : j < (clsL c).length := (List.getElem?_eq_some_iff.1 h).1
  rw [List.getElem?_toArray, show 0 + 1 + j = j + 1 by omega]
  show (clsL c ++ [vk])[j]? = _
  rw [List.getElem?_append_left hj]; exact h
set_option maxRecDepth 100000 in
set_option maxHeartbeats 16000000 in
theorem check_calls (w0 : World) (gn : Nat) : ∀ (N : Nat) (r : Rx), sizeX r ≤ N → ∀ (v : Value) (deep n : Nat) (w : World) (B : Base), RexR (Low w0) w0 v r → n ≤ 100 → deep ≤ 31 → Old w0 B → Mem B [blkO gn #[.int .i64 (n : Int)] 3] w →
    Calls Try.prog 18 #[v, .int .i64 (deep : Int), .pointer (some ⟨gn, 0, none⟩)] w (MeetsB ⟨fun (_ : Unit) => True, fun _ => .int .i64 (chk r deep n).1, fun _ => [blkO gn #[.int .i64 ((chk r deep n).2 : Int)] 3]⟩ B)
  | 0, r, h, _, _, _, _, _, _, _, _, _, _ => by have := sizeX_pos r; omega
  | N + 1, .mk k c kids, hN, v, deep, n, w, B, hv, hn, hd, ho, hm => by
    have IH := check_calls w0 gn N
    obtain ⟨vk, rfl, hk64, hks⟩ := hv
    dsimp only [Rx.kind, Rx.cls, Rx.kids] at hk64 hks ⊢
    obtain ⟨bk, ck, rfl, hck, hmk, hrk⟩ := hks
    unfold maxLen at hmk
    rw [chk]
    rw [sizeX] at hN
    have hkc := fun w => rkids_calls k w
    have heq := eqCls c C4.zero
    have hcz := build_cz
    refine enterB hm (args := [rexV k c (.slice bk kids.length ck), .int .i64 (deep : Int), .pointer (some ⟨gn, 0, none⟩)]) (n := 55) Try.func18 rfl rfl rfl ?_
    clear hm
    refine T_seq (T_region (TL_box rfl rfl rfl fun g3 => ?_))
    conv => arg 8; simp only [zA, zB, zC, zD, zE, zF, zG, zH, zI, rowS, ret, id_eq]
    repeat (first
      | refine qv rfl (qp rfl) rfl rfl ?_ | refine TL_nil ?_ | refine T_seq ?_ | refine T_region ?_ | refine qcT rfl ?_ | refine qcF rfl ?_ | refine T_skip ?_
      | refine T_exit ?_ | refine T_ret ?_ | refine T_block ?_ | refine E_then ?_ | refine E_thenX ?_ | refine E_thenR ?_ | refine E_blockN ?_
      | refine E_blockR ?_ | refine E_blockX ?_ | refine E_blockO rfl ?_ | refine qv rfl (rr_nilc rfl) rfl rfl ?_
      | refine qv rfl (rr_load1 TyC.ty rfl (at_blk (i := 0) rfl rfl)) rfl rfl ?_
      | refine qv rfl (rr_add64 (r := ((n + 1 : Nat) : Int)) rfl rfl (by omega) (by omega) (by omega)) rfl rfl ?_ | refine qv rfl (qlen Und.eq rfl) rfl rfl ?_
      | refine qv rfl (qfld FldC.fld rfl rfl) rfl rfl ?_ | refine qv rfl (rr_nilc rfl) rfl rfl ?_ | refine qv rfl (rr_lss rfl rfl (qT (by omega))) rfl rfl ?_
      | refine qv rfl (rr_lss rfl rfl (qF (by omega))) rfl rfl ?_ | refine qv rfl (rr_gtr rfl rfl (qT (by omega))) rfl rfl ?_
      | refine qv rfl (rr_gtr rfl rfl (qF (by omega))) rfl rfl ?_ | refine qv rfl (rr_eql rfl rfl (qT (by omega))) rfl rfl ?_
      | refine qv rfl (rr_eql rfl rfl (qF (by omega))) rfl rfl ?_ | refine qv rfl (rr_neq rfl rfl (qT (by omega))) rfl rfl ?_
      | refine qv rfl (rr_neq rfl rfl (qF (by omega))) rfl rfl ?_ | refine qv rfl (rr_add64 rfl rfl (by omega) (by omega) rfl) rfl rfl ?_)
    refine TL_store1 (i := 0) rfl rfl rfl rfl rfl rfl ?_
    rw [show (#[.int .i64 (n : Int)] : Array Value).setIfInBounds 0 (.int .i64 ((n + 1 : Nat) : Int)) = #[.int .i64 ((n + 1 : Nat) : Int)] from rfl]
    conv => arg 8; simp only [zA, zB, zC, zD, zE, zF, zG, zH, zI, rowS, ret, id_eq]
    by_cases c1 : 100 < n + 1
    · rw [if_pos c1]
      repeat (first
        | refine qv rfl (qp rfl) rfl rfl ?_ | refine TL_nil ?_ | refine T_seq ?_ | refine T_region ?_ | refine qcT rfl ?_ | refine qcF rfl ?_ | refine T_skip ?_
        | refine T_exit ?_ | refine T_ret ?_ | refine T_block ?_ | refine E_then ?_ | refine E_thenX ?_ | refine E_thenR ?_ | refine E_blockN ?_
        | refine E_blockR ?_ | refine E_blockX ?_ | refine E_blockO rfl ?_ | refine qv rfl (rr_nilc rfl) rfl rfl ?_
        | refine qv rfl (rr_load1 TyC.ty rfl (at_blk (i := 0) rfl rfl)) rfl rfl ?_ | refine qv rfl (qlen Und.eq rfl) rfl rfl ?_
        | refine qv rfl (qfld FldC.fld rfl rfl) rfl rfl ?_ | refine qv rfl (rr_nilc rfl) rfl rfl ?_ | refine qv rfl (rr_lss rfl rfl (qT (by omega))) rfl rfl ?_
        | refine qv rfl (rr_lss rfl rfl (qF (by omega))) rfl rfl ?_ | refine qv rfl (rr_gtr rfl rfl (qT (by omega))) rfl rfl ?_
        | refine qv rfl (rr_gtr rfl rfl (qF (by omega))) rfl rfl ?_ | refine qv rfl (rr_eql rfl rfl (qT (by omega))) rfl rfl ?_
        | refine qv rfl (rr_eql rfl rfl (qF (by omega))) rfl rfl ?_ | refine qv rfl (rr_neq rfl rfl (qT (by omega))) rfl rfl ?_
        | refine qv rfl (rr_neq rfl rfl (qF (by omega))) rfl rfl ?_ | refine qv rfl (rr_add64 rfl rfl (by omega) (by omega) rfl) rfl rfl ?_)
      exact E_ret1 rfl rfl fun w hm => hm.meetsB (S := ⟨fun (_ : Unit) => True, fun _ => .int .i64 2, fun _ => [blkO gn #[.int .i64 ((n + 1 : Nat) : Int)] 3]⟩) () trivial [0] (by decide) rfl
    rw [if_neg c1]
    by_cases c2 : 30 < deep
    · rw [if_pos c2]
      repeat (first
        | refine qv rfl (qp rfl) rfl rfl ?_ | refine TL_nil ?_ | refine T_seq ?_ | refine T_region ?_ | refine qcT rfl ?_ | refine qcF rfl ?_ | refine T_skip ?_
        | refine T_exit ?_ | refine T_ret ?_ | refine T_block ?_ | refine E_then ?_ | refine E_thenX ?_ | refine E_thenR ?_ | refine E_blockN ?_
        | refine E_blockR ?_ | refine E_blockX ?_ | refine E_blockO rfl ?_ | refine qv rfl (rr_nilc rfl) rfl rfl ?_
        | refine qv rfl (rr_load1 TyC.ty rfl (at_blk (i := 0) rfl rfl)) rfl rfl ?_ | refine qv rfl (qlen Und.eq rfl) rfl rfl ?_
        | refine qv rfl (qfld FldC.fld rfl rfl) rfl rfl ?_ | refine qv rfl (rr_nilc rfl) rfl rfl ?_ | refine qv rfl (rr_lss rfl rfl (qT (by omega))) rfl rfl ?_
        | refine qv rfl (rr_lss rfl rfl (qF (by omega))) rfl rfl ?_ | refine qv rfl (rr_gtr rfl rfl (qT (by omega))) rfl rfl ?_
        | refine qv rfl (rr_gtr rfl rfl (qF (by omega))) rfl rfl ?_ | refine qv rfl (rr_eql rfl rfl (qT (by omega))) rfl rfl ?_
        | refine qv rfl (rr_eql rfl rfl (qF (by omega))) rfl rfl ?_ | refine qv rfl (rr_neq rfl rfl (qT (by omega))) rfl rfl ?_
        | refine qv rfl (rr_neq rfl rfl (qF (by omega))) rfl rfl ?_ | refine qv rfl (rr_add64 rfl rfl (by omega) (by omega) rfl) rfl rfl ?_)
      exact E_ret1 rfl rfl fun w hm => hm.meetsB (S := ⟨fun (_ : Unit) => True, fun _ => .int .i64 7, fun _ => [blkO gn #[.int .i64 ((n + 1 : Nat) : Int)] 3]⟩) () trivial [0] (by decide) rfl
    rw [if_neg c2]
    repeat (first
      | refine qv rfl (qp rfl) rfl rfl ?_ | refine TL_nil ?_ | refine T_seq ?_ | refine T_region ?_ | refine qcT rfl ?_ | refine qcF rfl ?_ | refine T_skip ?_
      | refine T_exit ?_ | refine T_ret ?_ | refine T_block ?_ | refine E_then ?_ | refine E_thenX ?_ | refine E_thenR ?_ | refine E_blockN ?_
      | refine E_blockR ?_ | refine E_blockX ?_ | refine E_blockO rfl ?_ | refine qv rfl (rr_nilc rfl) rfl rfl ?_
      | refine qv rfl (rr_load1 TyC.ty rfl (at_blk (i := 0) rfl rfl)) rfl rfl ?_ | refine qv rfl (qlen Und.eq rfl) rfl rfl ?_
      | refine qv rfl (qfld FldC.fld rfl rfl) rfl rfl ?_ | refine qv rfl (rr_nilc rfl) rfl rfl ?_ | refine qv rfl (rr_lss rfl rfl (qT (by omega))) rfl rfl ?_
      | refine qv rfl (rr_lss rfl rfl (qF (by omega))) rfl rfl ?_ | refine qv rfl (rr_gtr rfl rfl (qT (by omega))) rfl rfl ?_
      | refine qv rfl (rr_gtr rfl rfl (qF (by omega))) rfl rfl ?_ | refine qv rfl (rr_eql rfl rfl (qT (by omega))) rfl rfl ?_
      | refine qv rfl (rr_eql rfl rfl (qF (by omega))) rfl rfl ?_ | refine qv rfl (rr_neq rfl rfl (qT (by omega))) rfl rfl ?_
      | refine qv rfl (rr_neq rfl rfl (qF (by omega))) rfl rfl ?_ | refine qv rfl (rr_add64 rfl rfl (by omega) (by omega) rfl) rfl rfl ?_)
    by_cases c3 : kidsN k ≠ (kids.length : Int)
    · rw [if_pos c3]
      (repeat refine T_seq ?_)
      refine T_ord ([blkO g3 (rexC k c (.slice bk kids.length ck)).toArray 33]) (.calm 0 (.calm 1 (.calm 2 (.calm 3 (.calm 4 (.calm 5 (.calm 6 (.calm 7 (.done))))))))) (sub_pick [1] (by decide) rfl) (by kernel_rfl) (by kernel_rfl) (by intro c a d v w h; cases d <;> exact h) ?_
      repeat (first
        | ((first | refine TW_plain rfl rfl ?_ | refine TW_gmet rfl rfl rfl rfl ?_); first | refine TN_val (qp rfl) rfl rfl ?_ | refine TN_val (rr_load1 TyC.ty rfl (at_blk (i := 0) rfl rfl)) rfl rfl ?_ | refine TN_val (qlen Und.eq rfl) rfl rfl ?_ | refine TN_val (qfld FldC.fld rfl rfl) rfl rfl ?_ | refine TN_val (rr_nilc rfl) rfl rfl ?_ | refine TN_val (rr_lss rfl rfl (qT (by omega))) rfl rfl ?_ | refine TN_val (rr_lss rfl rfl (qF (by omega))) rfl rfl ?_ | refine TN_val (rr_gtr rfl rfl (qT (by omega))) rfl rfl ?_ | refine TN_val (rr_gtr rfl rfl (qF (by omega))) rfl rfl ?_ | refine TN_val (rr_eql rfl rfl (qT (by omega))) rfl rfl ?_ | refine TN_val (rr_eql rfl rfl (qF (by omega))) rfl rfl ?_ | refine TN_val (rr_neq rfl rfl (qT (by omega))) rfl rfl ?_ | refine TN_val (rr_neq rfl rfl (qF (by omega))) rfl rfl ?_ | refine TN_val (rr_add64 rfl rfl (by omega) (by omega) rfl) rfl rfl ?_)
        | refine TW_done ?_)
      refine TW_call rfl (he1 EntersC.en rfl rfl) (fun w hm => hkc _) rfl rfl rfl ?_
      repeat (first
        | ((first | refine TW_plain rfl rfl ?_ | refine TW_gmet rfl rfl rfl rfl ?_); first | refine TN_val (qp rfl) rfl rfl ?_ | refine TN_val (rr_load1 TyC.ty rfl (at_blk (i := 0) rfl rfl)) rfl rfl ?_ | refine TN_val (rr_neq (b := true) rfl rfl (decide_eq_true c3)) rfl rfl ?_ | refine TN_val (qlen Und.eq rfl) rfl rfl ?_ | refine TN_val (qfld FldC.fld rfl rfl) rfl rfl ?_ | refine TN_val (rr_nilc rfl) rfl rfl ?_ | refine TN_val (rr_lss rfl rfl (qT (by omega))) rfl rfl ?_ | refine TN_val (rr_lss rfl rfl (qF (by omega))) rfl rfl ?_ | refine TN_val (rr_gtr rfl rfl (qT (by omega))) rfl rfl ?_ | refine TN_val (rr_gtr rfl rfl (qF (by omega))) rfl rfl ?_ | refine TN_val (rr_eql rfl rfl (qT (by omega))) rfl rfl ?_ | refine TN_val (rr_eql rfl rfl (qF (by omega))) rfl rfl ?_ | refine TN_val (rr_neq rfl rfl (qT (by omega))) rfl rfl ?_ | refine TN_val (rr_neq rfl rfl (qF (by omega))) rfl rfl ?_ | refine TN_val (rr_add64 rfl rfl (by omega) (by omega) rfl) rfl rfl ?_)
        | refine TW_done ?_)
      repeat (first
        | refine qv rfl (qp rfl) rfl rfl ?_ | refine TL_nil ?_ | refine T_seq ?_ | refine T_region ?_ | refine qcT rfl ?_ | refine qcF rfl ?_ | refine T_skip ?_
        | refine T_exit ?_ | refine T_ret ?_ | refine T_block ?_ | refine E_then ?_ | refine E_thenX ?_ | refine E_thenR ?_ | refine E_blockN ?_
        | refine E_blockR ?_ | refine E_blockX ?_ | refine E_blockO rfl ?_ | refine qv rfl (qlen Und.eq rfl) rfl rfl ?_
        | refine qv rfl (qfld FldC.fld rfl rfl) rfl rfl ?_ | refine qv rfl (rr_nilc rfl) rfl rfl ?_ | refine qv rfl (rr_lss rfl rfl (qT (by omega))) rfl rfl ?_
        | refine qv rfl (rr_lss rfl rfl (qF (by omega))) rfl rfl ?_ | refine qv rfl (rr_gtr rfl rfl (qT (by omega))) rfl rfl ?_
        | refine qv rfl (rr_gtr rfl rfl (qF (by omega))) rfl rfl ?_ | refine qv rfl (rr_eql rfl rfl (qT (by omega))) rfl rfl ?_
        | refine qv rfl (rr_eql rfl rfl (qF (by omega))) rfl rfl ?_ | refine qv rfl (rr_neq rfl rfl (qT (by omega))) rfl rfl ?_
        | refine qv rfl (rr_neq rfl rfl (qF (by omega))) rfl rfl ?_ | refine qv rfl (rr_add64 rfl rfl (by omega) (by omega) rfl) rfl rfl ?_)
      exact E_ret1 rfl rfl fun w hm => hm.meetsB (S := ⟨fun (_ : Unit) => True, fun _ => .int .i64 1, fun _ => [blkO gn #[.int .i64 ((n + 1 : Nat) : Int)] 3]⟩) () trivial [0] (by decide) rfl
    rw [if_neg c3]
    have c3' : kidsN k = (kids.length : Int) := by simpa using c3
    rw [c3'] at hkc
    (repeat refine T_seq ?_)
    refine T_ord ([blkO g3 (rexC k c (.slice bk kids.length ck)).toArray 33]) (.calm 0 (.calm 1 (.calm 2 (.calm 3 (.calm 4 (.calm 5 (.calm 6 (.calm 7 (.done))))))))) (sub_pick [1] (by decide) rfl) (by kernel_rfl) (by kernel_rfl) (by intro c a d v w h; cases d <;> exact h) ?_
    repeat (first
      | ((first | refine TW_plain rfl rfl ?_ | refine TW_gmet rfl rfl rfl rfl ?_); first | refine TN_val (qp rfl) rfl rfl ?_ | refine TN_val (rr_load1 TyC.ty rfl (at_blk (i := 0) rfl rfl)) rfl rfl ?_ | refine TN_val (qlen Und.eq rfl) rfl rfl ?_ | refine TN_val (qfld FldC.fld rfl rfl) rfl rfl ?_ | refine TN_val (rr_nilc rfl) rfl rfl ?_ | refine TN_val (rr_lss rfl rfl (qT (by omega))) rfl rfl ?_ | refine TN_val (rr_lss rfl rfl (qF (by omega))) rfl rfl ?_ | refine TN_val (rr_gtr rfl rfl (qT (by omega))) rfl rfl ?_ | refine TN_val (rr_gtr rfl rfl (qF (by omega))) rfl rfl ?_ | refine TN_val (rr_eql rfl rfl (qT (by omega))) rfl rfl ?_ | refine TN_val (rr_eql rfl rfl (qF (by omega))) rfl rfl ?_ | refine TN_val (rr_neq rfl rfl (qT (by omega))) rfl rfl ?_ | refine TN_val (rr_neq rfl rfl (qF (by omega))) rfl rfl ?_ | refine TN_val (rr_add64 rfl rfl (by omega) (by omega) rfl) rfl rfl ?_)
      | refine TW_done ?_)
    refine TW_call rfl (he1 EntersC.en rfl rfl) (fun w hm => hkc _) rfl rfl rfl ?_
    repeat (first
      | ((first | refine TW_plain rfl rfl ?_ | refine TW_gmet rfl rfl rfl rfl ?_); first | refine TN_val (qp rfl) rfl rfl ?_ | refine TN_val (rr_load1 TyC.ty rfl (at_blk (i := 0) rfl rfl)) rfl rfl ?_ | refine TN_val (rr_neq (b := false) rfl rfl (decide_eq_false (fun h => h rfl))) rfl rfl ?_ | refine TN_val (qlen Und.eq rfl) rfl rfl ?_ | refine TN_val (qfld FldC.fld rfl rfl) rfl rfl ?_ | refine TN_val (rr_nilc rfl) rfl rfl ?_ | refine TN_val (rr_lss rfl rfl (qT (by omega))) rfl rfl ?_ | refine TN_val (rr_lss rfl rfl (qF (by omega))) rfl rfl ?_ | refine TN_val (rr_gtr rfl rfl (qT (by omega))) rfl rfl ?_ | refine TN_val (rr_gtr rfl rfl (qF (by omega))) rfl rfl ?_ | refine TN_val (rr_eql rfl rfl (qT (by omega))) rfl rfl ?_ | refine TN_val (rr_eql rfl rfl (qF (by omega))) rfl rfl ?_ | refine TN_val (rr_neq rfl rfl (qT (by omega))) rfl rfl ?_ | refine TN_val (rr_neq rfl rfl (qF (by omega))) rfl rfl ?_ | refine TN_val (rr_add64 rfl rfl (by omega) (by omega) rfl) rfl rfl ?_)
      | refine TW_done ?_)
    repeat (first
      | refine qv rfl (qp rfl) rfl rfl ?_ | refine TL_nil ?_ | refine T_seq ?_ | refine T_region ?_ | refine qcT rfl ?_ | refine qcF rfl ?_ | refine T_skip ?_
      | refine T_exit ?_ | refine T_ret ?_ | refine T_block ?_ | refine E_then ?_ | refine E_thenX ?_ | refine E_thenR ?_ | refine E_blockN ?_
      | refine E_blockR ?_ | refine E_blockX ?_ | refine E_blockO rfl ?_ | refine qv rfl (qlen Und.eq rfl) rfl rfl ?_
      | refine qv rfl (qfld FldC.fld rfl rfl) rfl rfl ?_ | refine qv rfl (rr_nilc rfl) rfl rfl ?_ | refine qv rfl (rr_lss rfl rfl (qT (by omega))) rfl rfl ?_
      | refine qv rfl (rr_lss rfl rfl (qF (by omega))) rfl rfl ?_ | refine qv rfl (rr_gtr rfl rfl (qT (by omega))) rfl rfl ?_
      | refine qv rfl (rr_gtr rfl rfl (qF (by omega))) rfl rfl ?_ | refine qv rfl (rr_eql rfl rfl (qT (by omega))) rfl rfl ?_
      | refine qv rfl (rr_eql rfl rfl (qF (by omega))) rfl rfl ?_ | refine qv rfl (rr_neq rfl rfl (qT (by omega))) rfl rfl ?_
      | refine qv rfl (rr_neq rfl rfl (qF (by omega))) rfl rfl ?_ | refine qv rfl (rr_add64 rfl rfl (by omega) (by omega) rfl) rfl rfl ?_)
    generalize hD : (decide (k = 3) != decide (c ≠ C4.zero)) = D
    have hD' : (!(decide (k = 3) == !decide (c = C4.zero))) = D := by
      rw [← hD, decide_not]
      cases decide (k = 3) <;> cases decide (c = C4.zero) <;> rfl
    (repeat refine T_seq ?_)
    refine T_ord ([blkO g3 (rexC k c (.slice bk kids.length ck)).toArray 33]) (.calm 0 (.calm 1 (.calm 2 (.calm 3 (.calm 4 (.calm 5 (.calm 6 (.calm 7 (.calm 8 (.done)))))))))) (sub_pick [1] (by decide) rfl) (by kernel_rfl) (by kernel_rfl) (by intro c a d v w h; cases d <;> exact h) ?_
    repeat (first
      | ((first | refine TW_plain rfl rfl ?_ | refine TW_gmet rfl rfl rfl rfl ?_); first | refine TN_val (qp rfl) rfl rfl ?_ | refine TN_val (rr_load1 TyC.ty rfl (at_blk (i := 0) rfl rfl)) rfl rfl ?_ | refine TN_val (rr_eql (b := decide (k = 3)) rfl rfl rfl) rfl rfl ?_ | refine TN_val (rr_loadN (cs := clsL c) TyC.ty rfl rfl (fun j v hj => at_blk (i := 0) rfl (rex_cls hj))) rfl rfl ?_ | refine TN_val (rr_build rfl hcz) rfl rfl ?_ | refine TN_val (rr_aggne rfl rfl (by kernel_rfl) heq rfl) rfl rfl ?_ | refine TN_val (rr_boolne (c := D) Und.eq rfl rfl hD') rfl rfl ?_ | refine TN_val (qlen Und.eq rfl) rfl rfl ?_ | refine TN_val (qfld FldC.fld rfl rfl) rfl rfl ?_ | refine TN_val (rr_nilc rfl) rfl rfl ?_ | refine TN_val (rr_lss rfl rfl (qT (by omega))) rfl rfl ?_ | refine TN_val (rr_lss rfl rfl (qF (by omega))) rfl rfl ?_ | refine TN_val (rr_gtr rfl rfl (qT (by omega))) rfl rfl ?_ | refine TN_val (rr_gtr rfl rfl (qF (by omega))) rfl rfl ?_ | refine TN_val (rr_eql rfl rfl (qT (by omega))) rfl rfl ?_ | refine TN_val (rr_eql rfl rfl (qF (by omega))) rfl rfl ?_ | refine TN_val (rr_neq rfl rfl (qT (by omega))) rfl rfl ?_ | refine TN_val (rr_neq rfl rfl (qF (by omega))) rfl rfl ?_ | refine TN_val (rr_add64 rfl rfl (by omega) (by omega) rfl) rfl rfl ?_)
      | refine TW_done ?_)
    clear hD hD' heq hcz hkc
    cases D with
    | true =>
      rw [if_pos rfl]
      repeat (first
        | refine qv rfl (qp rfl) rfl rfl ?_ | refine TL_nil ?_ | refine T_seq ?_ | refine T_region ?_ | refine qcT rfl ?_ | refine qcF rfl ?_ | refine T_skip ?_
        | refine T_exit ?_ | refine T_ret ?_ | refine T_block ?_ | refine E_then ?_ | refine E_thenX ?_ | refine E_thenR ?_ | refine E_blockN ?_
        | refine E_blockR ?_ | refine E_blockX ?_ | refine E_blockO rfl ?_ | refine qv rfl (qlen Und.eq rfl) rfl rfl ?_
        | refine qv rfl (qfld FldC.fld rfl rfl) rfl rfl ?_ | refine qv rfl (rr_nilc rfl) rfl rfl ?_ | refine qv rfl (rr_lss rfl rfl (qT (by omega))) rfl rfl ?_
        | refine qv rfl (rr_lss rfl rfl (qF (by omega))) rfl rfl ?_ | refine qv rfl (rr_gtr rfl rfl (qT (by omega))) rfl rfl ?_
        | refine qv rfl (rr_gtr rfl rfl (qF (by omega))) rfl rfl ?_ | refine qv rfl (rr_eql rfl rfl (qT (by omega))) rfl rfl ?_
        | refine qv rfl (rr_eql rfl rfl (qF (by omega))) rfl rfl ?_ | refine qv rfl (rr_neq rfl rfl (qT (by omega))) rfl rfl ?_
        | refine qv rfl (rr_neq rfl rfl (qF (by omega))) rfl rfl ?_ | refine qv rfl (rr_add64 rfl rfl (by omega) (by omega) rfl) rfl rfl ?_)
      exact E_ret1 rfl rfl fun w hm => hm.meetsB (S := ⟨fun (_ : Unit) => True, fun _ => .int .i64 1, fun _ => [blkO gn #[.int .i64 ((n + 1 : Nat) : Int)] 3]⟩) () trivial [0] (by decide) rfl
    | false =>
      rw [if_neg (by decide)]
      repeat (first
        | refine qv rfl (qp rfl) rfl rfl ?_ | refine TL_nil ?_ | refine T_seq ?_ | refine T_region ?_ | refine qcT rfl ?_ | refine qcF rfl ?_ | refine T_skip ?_
        | refine T_exit ?_ | refine T_ret ?_ | refine T_block ?_ | refine E_then ?_ | refine E_thenX ?_ | refine E_thenR ?_ | refine E_blockN ?_
        | refine E_blockR ?_ | refine E_blockX ?_ | refine E_blockO rfl ?_ | refine qv rfl (rr_load1 TyC.ty rfl (at_blk (i := 1) rfl rfl)) rfl rfl ?_
        | refine qv rfl (qlen Und.eq rfl) rfl rfl ?_ | refine qv rfl (qfld FldC.fld rfl rfl) rfl rfl ?_ | refine qv rfl (rr_nilc rfl) rfl rfl ?_
        | refine qv rfl (rr_lss rfl rfl (qT (by omega))) rfl rfl ?_ | refine qv rfl (rr_lss rfl rfl (qF (by omega))) rfl rfl ?_
        | refine qv rfl (rr_gtr rfl rfl (qT (by omega))) rfl rfl ?_ | refine qv rfl (rr_gtr rfl rfl (qF (by omega))) rfl rfl ?_
        | refine qv rfl (rr_eql rfl rfl (qT (by omega))) rfl rfl ?_ | refine qv rfl (rr_eql rfl rfl (qF (by omega))) rfl rfl ?_
        | refine qv rfl (rr_neq rfl rfl (qT (by omega))) rfl rfl ?_ | refine qv rfl (rr_neq rfl rfl (qF (by omega))) rfl rfl ?_
        | refine qv rfl (rr_add64 rfl rfl (by omega) (by omega) rfl) rfl rfl ?_)
      refine T_pick [0] (by decide) rfl ?_
      refine T_loop (ι := Nat × Nat) (fun (j, q) => j ≤ kids.length ∧ q ≤ 100 ∧ chks kids (deep + 1) (n + 1) = chks (kids.drop j) (deep + 1) q) (fun (j, _) => [(1, .int .i64 (deep : Int)), (2, .pointer (some ⟨gn, 0, none⟩)), (40, .slice bk kids.length ck), (41, .int .i64 (kids.length : Int)), (42, .int .i64 (j : Int))])
        (fun (_, q) => [blkO gn #[.int .i64 (q : Int)] 3]) (fun (j, _) => kids.length - j) (0, n + 1) ⟨Nat.zero_le _, by omega, rfl⟩ (by repeat' (first | exact True.intro | refine And.intro rfl ?_)) rfl ?_
      rintro ⟨j, q⟩ ⟨hj, hq, hk⟩
      dsimp only at hj hq hk ⊢
      rw [hk]
      by_cases c4 : j < kids.length
      · obtain ⟨b, off, rfl, _, hr⟩ := hrk (by omega)
        obtain ⟨bj, cj, hrd, hkr⟩ := rkid_at hr c4
        have hd' : kids.drop j = kids[j] :: kids.drop (j + 1) := List.drop_eq_getElem_cons c4
        rw [hd', chks] at hk ⊢
        have hsz := sizesX_mem (List.getElem_mem c4)
        have hle := fun h => chk_le (r := kids[j]'c4) (deep := deep + 1) (n := q) h
        have hat := fun (L : List Own) j v hj => at_oldR (L := L) ho hrd j v hj
        generalize kids[j] = r at *
        generalize r.kids.length = m at *
        repeat (first
          | refine qv rfl (qp rfl) rfl rfl ?_ | refine TL_nil ?_ | refine T_seq ?_ | refine T_region ?_ | refine qcT rfl ?_ | refine qcF rfl ?_ | refine T_skip ?_
          | refine T_exit ?_ | refine T_ret ?_ | refine T_block ?_ | refine E_then ?_ | refine E_thenX ?_ | refine E_thenR ?_ | refine E_blockN ?_
          | refine E_blockR ?_ | refine E_blockX ?_ | refine E_blockO rfl ?_ | refine qv rfl (rr_idxc (j := j) Und.eq TyC.ty rfl rfl c4) rfl rfl ?_
          | refine qv rfl (rr_loadN TyC.ty rfl rfl (hat _)) rfl rfl ?_ | refine qv rfl (qlen Und.eq rfl) rfl rfl ?_
          | refine qv rfl (qfld FldC.fld rfl rfl) rfl rfl ?_ | refine qv rfl (rr_nilc rfl) rfl rfl ?_ | refine qv rfl (rr_lss rfl rfl (qT (by omega))) rfl rfl ?_
          | refine qv rfl (rr_lss rfl rfl (qF (by omega))) rfl rfl ?_ | refine qv rfl (rr_gtr rfl rfl (qT (by omega))) rfl rfl ?_
          | refine qv rfl (rr_gtr rfl rfl (qF (by omega))) rfl rfl ?_ | refine qv rfl (rr_eql rfl rfl (qT (by omega))) rfl rfl ?_
          | refine qv rfl (rr_eql rfl rfl (qF (by omega))) rfl rfl ?_ | refine qv rfl (rr_neq rfl rfl (qT (by omega))) rfl rfl ?_
          | refine qv rfl (rr_neq rfl rfl (qF (by omega))) rfl rfl ?_ | refine qv rfl (rr_add64 rfl rfl (by omega) (by omega) rfl) rfl rfl ?_)
        refine TL_new rfl fun g8 => ?_
        conv => arg 8; simp only [zA, zB, zC, zD, zE, zF, zG, zH, zI, rowS, ret, id_eq]
        refine TL_storeB (i := 1) (cs' := (rexC r.kind r.cls (.slice bj m cj)).toArray) rfl rfl rfl rfl rfl rfl ?_
        conv => arg 8; simp only [zA, zB, zC, zD, zE, zF, zG, zH, zI, rowS, ret, id_eq]
        repeat (first
          | refine qv rfl (qp rfl) rfl rfl ?_ | refine TL_nil ?_ | refine T_seq ?_ | refine T_region ?_ | refine qcT rfl ?_ | refine qcF rfl ?_ | refine T_skip ?_
          | refine T_exit ?_ | refine T_ret ?_ | refine T_block ?_ | refine E_then ?_ | refine E_thenX ?_ | refine E_thenR ?_ | refine E_blockN ?_
          | refine E_blockR ?_ | refine E_blockX ?_ | refine E_blockO rfl ?_ | refine qv rfl (rr_loadB (i := 1) TyC.ty rfl rfl rfl) rfl rfl ?_
          | refine qv rfl (rr_add64 (r := ((deep + 1 : Nat) : Int)) rfl rfl (by omega) (by omega) (by omega)) rfl rfl ?_
          | refine qv rfl (qlen Und.eq rfl) rfl rfl ?_ | refine qv rfl (qfld FldC.fld rfl rfl) rfl rfl ?_ | refine qv rfl (rr_nilc rfl) rfl rfl ?_
          | refine qv rfl (rr_lss rfl rfl (qT (by omega))) rfl rfl ?_ | refine qv rfl (rr_lss rfl rfl (qF (by omega))) rfl rfl ?_
          | refine qv rfl (rr_gtr rfl rfl (qT (by omega))) rfl rfl ?_ | refine qv rfl (rr_gtr rfl rfl (qF (by omega))) rfl rfl ?_
          | refine qv rfl (rr_eql rfl rfl (qT (by omega))) rfl rfl ?_ | refine qv rfl (rr_eql rfl rfl (qF (by omega))) rfl rfl ?_
          | refine qv rfl (rr_neq rfl rfl (qT (by omega))) rfl rfl ?_ | refine qv rfl (rr_neq rfl rfl (qF (by omega))) rfl rfl ?_
          | refine qv rfl (rr_add64 rfl rfl (by omega) (by omega) rfl) rfl rfl ?_)
        refine TL_callB [0] [1] (by decide) rfl rfl (he3 EntersC.en rfl rfl rfl rfl) (fun w hm hb => IH r (by omega) _ (deep + 1) q w _ hkr hq (by omega) (ho.on hm (by intro o ho; simp at ho ⊢; simp [ho])) hb) rfl rfl rfl ?_
        intro _ _
        dsimp only
        conv => arg 8; simp only [zA, zB, zC, zD, zE, zF, zG, zH, zI, rowS, ret, id_eq]
        by_cases e1 : (chk r (deep + 1) q).1 = 0
        · rw [if_neg (by simpa using e1)]
          rw [if_neg (by simpa using e1)] at hk
          have hq' := hle e1
          rw [e1]
          generalize (chk r (deep + 1) q).2 = q' at *
          repeat (first
            | refine qv rfl (qp rfl) rfl rfl ?_ | refine TL_nil ?_ | refine T_seq ?_ | refine T_region ?_ | refine qcT rfl ?_ | refine qcF rfl ?_ | refine T_skip ?_
            | refine T_exit ?_ | refine T_ret ?_ | refine T_block ?_ | refine E_then ?_ | refine E_thenX ?_ | refine E_thenR ?_ | refine E_blockN ?_
            | refine E_blockR ?_ | refine E_blockX ?_ | refine E_blockO rfl ?_ | refine qv rfl (qlen Und.eq rfl) rfl rfl ?_
            | refine qv rfl (qfld FldC.fld rfl rfl) rfl rfl ?_ | refine qv rfl (rr_nilc rfl) rfl rfl ?_ | refine qv rfl (rr_lss rfl rfl (qT (by omega))) rfl rfl ?_
            | refine qv rfl (rr_lss rfl rfl (qF (by omega))) rfl rfl ?_ | refine qv rfl (rr_gtr rfl rfl (qT (by omega))) rfl rfl ?_
            | refine qv rfl (rr_gtr rfl rfl (qF (by omega))) rfl rfl ?_ | refine qv rfl (rr_eql rfl rfl (qT (by omega))) rfl rfl ?_
            | refine qv rfl (rr_eql rfl rfl (qF (by omega))) rfl rfl ?_ | refine qv rfl (rr_neq rfl rfl (qT (by omega))) rfl rfl ?_
            | refine qv rfl (rr_neq rfl rfl (qF (by omega))) rfl rfl ?_ | refine qv rfl (rr_add64 rfl rfl (by omega) (by omega) rfl) rfl rfl ?_)
          refine E_pick [1] (by decide) rfl ?_
          exact E_round (j + 1, q') ⟨by show j + 1 ≤ kids.length; omega, hq', rfl⟩ (by show kids.length - (j + 1) < kids.length - j; omega) (by repeat' (first | exact True.intro | refine And.intro rfl ?_)) rfl
        · rw [if_pos e1]
          generalize chk r (deep + 1) q = z at *
          repeat (first
            | refine qv rfl (qp rfl) rfl rfl ?_ | refine TL_nil ?_ | refine T_seq ?_ | refine T_region ?_ | refine qcT rfl ?_ | refine qcF rfl ?_ | refine T_skip ?_
            | refine T_exit ?_ | refine T_ret ?_ | refine T_block ?_ | refine E_then ?_ | refine E_thenX ?_ | refine E_thenR ?_ | refine E_blockN ?_
            | refine E_blockR ?_ | refine E_blockX ?_ | refine E_blockO rfl ?_ | refine qv rfl (rr_neq (b := true) rfl rfl (decide_eq_true e1)) rfl rfl ?_
            | refine qv rfl (qlen Und.eq rfl) rfl rfl ?_ | refine qv rfl (qfld FldC.fld rfl rfl) rfl rfl ?_ | refine qv rfl (rr_nilc rfl) rfl rfl ?_
            | refine qv rfl (rr_lss rfl rfl (qT (by omega))) rfl rfl ?_ | refine qv rfl (rr_lss rfl rfl (qF (by omega))) rfl rfl ?_
            | refine qv rfl (rr_gtr rfl rfl (qT (by omega))) rfl rfl ?_ | refine qv rfl (rr_gtr rfl rfl (qF (by omega))) rfl rfl ?_
            | refine qv rfl (rr_eql rfl rfl (qT (by omega))) rfl rfl ?_ | refine qv rfl (rr_eql rfl rfl (qF (by omega))) rfl rfl ?_
            | refine qv rfl (rr_neq rfl rfl (qT (by omega))) rfl rfl ?_ | refine qv rfl (rr_neq rfl rfl (qF (by omega))) rfl rfl ?_
            | refine qv rfl (rr_add64 rfl rfl (by omega) (by omega) rfl) rfl rfl ?_)
          exact E_ret1 rfl rfl fun w hm => hm.meetsB (S := ⟨fun (_ : Unit) => True, fun _ => .int .i64 z.1, fun _ => [blkO gn #[.int .i64 (z.2 : Int)] 3]⟩) () trivial [1] (by decide) rfl
      · obtain rfl : j = kids.length := by omega
        rw [List.drop_length, chks] at hk ⊢
        repeat (first
          | refine qv rfl (qp rfl) rfl rfl ?_ | refine TL_nil ?_ | refine T_seq ?_ | refine T_region ?_ | refine qcT rfl ?_ | refine qcF rfl ?_ | refine T_skip ?_
          | refine T_exit ?_ | refine T_ret ?_ | refine T_block ?_ | refine E_then ?_ | refine E_thenX ?_ | refine E_thenR ?_ | refine E_blockN ?_
          | refine E_blockR ?_ | refine E_blockX ?_ | refine E_blockO rfl ?_ | refine qv rfl (qlen Und.eq rfl) rfl rfl ?_
          | refine qv rfl (qfld FldC.fld rfl rfl) rfl rfl ?_ | refine qv rfl (rr_nilc rfl) rfl rfl ?_ | refine qv rfl (rr_lss rfl rfl (qT (by omega))) rfl rfl ?_
          | refine qv rfl (rr_lss rfl rfl (qF (by omega))) rfl rfl ?_ | refine qv rfl (rr_gtr rfl rfl (qT (by omega))) rfl rfl ?_
          | refine qv rfl (rr_gtr rfl rfl (qF (by omega))) rfl rfl ?_ | refine qv rfl (rr_eql rfl rfl (qT (by omega))) rfl rfl ?_
          | refine qv rfl (rr_eql rfl rfl (qF (by omega))) rfl rfl ?_ | refine qv rfl (rr_neq rfl rfl (qT (by omega))) rfl rfl ?_
          | refine qv rfl (rr_neq rfl rfl (qF (by omega))) rfl rfl ?_ | refine qv rfl (rr_add64 rfl rfl (by omega) (by omega) rfl) rfl rfl ?_)
        exact E_ret1 rfl rfl fun w hm => hm.meetsB (S := ⟨fun (_ : Unit) => True, fun _ => .int .i64 0, fun _ => [blkO gn #[.int .i64 (q : Int)] 3]⟩) () trivial [0] (by decide) rfl
/-- what Check says -/
def chkX (r : Rx) : Int := (chk r 1 0).1
set_option maxHeartbeats 4000000 in
theorem rexCheck_calls (v : Value) (r : Rx) (w : World) (hv : RexR (Low w) w v r) : Calls Try.prog 12 #[v] w (Meets (ret (.int .i64 (chkX r))) w) := by
  have hc := fun gn w' B ho hm => check_calls w gn _ r (Nat.le_refl _) v 1 0 w' B hv (by omega) (by omega) ho hm
  obtain ⟨vk, rfl, _, hs⟩ := hv
  obtain ⟨bk, ck, rfl, -⟩ := hs
  generalize r.kids.length = m at *
  refine enter (args := [rexV r.kind r.cls (.slice bk m ck)]) (n := 6) Try.func12 rfl rfl rfl ?_
  refine T_seq (T_region (TL_box rfl rfl rfl fun g1 => ?_))
  repeat (first
    | refine qv rfl (qp rfl) rfl rfl ?_ | refine TL_nil ?_ | refine T_seq ?_ | refine T_region ?_ | refine T_ret ?_ | refine E_then ?_ | refine E_thenR ?_)
  refine TL_new rfl fun g3 => ?_
  conv => arg 8; simp only [zA, zB, zC, zD, zE, zF, zG, zH, zI, rowS, ret, id_eq]
  refine TL_store1 (i := 1) rfl rfl rfl rfl rfl rfl ?_
  conv => arg 8; simp only [zA, zB, zC, zD, zE, zF, zG, zH, zI, rowS, ret, id_eq]
  repeat (first
    | refine qv rfl (qp rfl) rfl rfl ?_ | refine TL_nil ?_ | refine T_seq ?_ | refine T_region ?_ | refine T_ret ?_ | refine E_then ?_ | refine E_thenR ?_
    | refine qv rfl (rr_loadB (i := 0) TyC.ty rfl rfl rfl) rfl rfl ?_)
  refine TL_callB [1] [0] (by decide) rfl rfl (he3 EntersC.en rfl rfl rfl rfl) (fun w hm hb => hc g3 w _ ((Old.self _).on hm (by intro o ho; simp at ho ⊢; simp [ho])) hb) rfl rfl rfl ?_
  intro _ _
  dsimp only
  unfold chkX
  repeat (first
    | refine qv rfl (qp rfl) rfl rfl ?_ | refine TL_nil ?_ | refine T_seq ?_ | refine T_region ?_ | refine T_ret ?_ | refine E_then ?_ | refine E_thenR ?_)
  exact E_ret1 rfl rfl fun w hm => hm.ret
end Go.Proofs.Ytknojgjdaafboaa.eng

