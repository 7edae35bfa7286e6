/- Part 4 of what PlacesMeans needs: PlN, PlS, PlA, PlC, PlD, PlacesM, PlM, PlR, SmIe, BoE, PlE. -/
import Derived.Test.YtndbaalenclgaaaDoorMgC
import Derived.WalkKit
import Derived.WalkSpells
import Derived.WalkLawsBesides
import Derived.Deep.RegionLaw
import Derived.Deep.AppendLies
import Derived.Deep.QuietTactic
import Derived.BigQuiet
import Derived.Deep.DeepCutAuto
import Derived.Lib.Hide
import Derived.Test.YtndbaalenclgaaaDoorRows
import Derived.ProofKit
import Derived.OpenShut
import Derived.ShutString
import Derived.SizedLaws
import Derived.JoinedCond
import Derived.Deep.CondSized
import Derived.Deep.Quiet
import Derived.StillTail
import Derived.Deep.LoopGhost
import Derived.Laws.BitsLemmas
import Derived.Laws.BytesString
import Derived.Test.YtndbaalenclgaaaDoorProg
import Derived.Laws.Entries
import Derived.Laws.BitsAllLaws
import Derived.Laws.StructEq
import Derived.ChangeKeysEq
import Derived.Lib.TrailingZeros
import Derived.Laws.MakeOwn
import Derived.Laws.AppendOwn
import Derived.Laws.Bits64b
import Derived.Handed
import Derived.Lay
import Derived.Lib.LaidTab
import Derived.MakeChecks
import Derived.Maps.OwnSet
import Derived.DeepKeys4
import Derived.WideKeyEntry
import Derived.Shelf.Sort.Plain
import Derived.Ground.Names2Prog
import Derived.Shelf.Slices.CompactI
import Derived.Shelf.Slices.In.SortNone
import Derived.Lib.RowBridge
import Derived.Lib.SlicesCompact
/- PlN -/
namespace Go.Proofs.YtndbaalenclgaaaDoor.eng
open Go.RowKit kit mix classL rexL placesL
/-- blocks that are there already, and stay -/
def OldB (B : Base) (k : Nat) : Prop := k < B.w.heap.size ∧ ¬ B.X k
theorem at_oldB {B : Base} {L : List Own} {b off : Nat} {cs : List Value} (hb : OldB B b) (h : Rd B.w b off cs) (j : Nat) (v : Value) (hj : cs[j]? = some v) : At B L ⟨b, off + j, none⟩ v := fun w hm =>
  rd_stay h (hm.low.block b hb.1 hb.2) j v hj
theorem old_on {B : Base} {Lx : List Own} {w : World} (hm : Mem B Lx w) {k : Nat} (hk : OldB B k) : OldB (Base.on w Lx) k := by
  refine ⟨Nat.lt_of_lt_of_le hk.1 hm.low.size, ?_⟩
  rintro ⟨o, ho, hf⟩
  obtain ⟨i, hi⟩ := List.mem_iff_getElem?.1 ho
  rcases (hm.owns.all i o hi).2 k hf with h | h
  · have := hk.1; omega
  · exact hk.2 h
theorem rex_on {B : Base} {Lx : List Own} {w : World} {v : Value} {r : Rx} (hm : Mem B Lx w) (h : RexR (OldB B) B.w v r) : RexR (OldB (Base.on w Lx)) w v r :=
  (h.stay fun k hk => hm.low.block k hk.1 hk.2).mono fun _ hk => old_on hm hk
/-- what the maker has -/
structure MIx where
  vc : Value
  vr : Value
  vfol : Value
  vl : Value
  vs : List Value
  F : Nat → Prop
def mkL (g : Nat) (vf ve : Value) (rule : Int) (x : MIx) (p : PS) : List Own :=
  [blkO g (mkC x.vc x.vr vf x.vfol x.vl ve rule) 47, rowO 34 4 x.vc p.classes.length (p.classes.flatMap clsL), intR x.vr p.rules, folR x.vfol x.vs, folE x.F x.vs p.follow, rowO 4 1 x.vl p.last.length (p.last.map Value.bool)]
def nodeSp (g : Nat) (vf ve : Value) (rule : Int) (R : Shape × PS) : Spec (MIx × Value × Value) :=
  ⟨fun x => x.1.vs.length = R.2.follow.length, fun x => .agg #[.bool R.1.empty, x.2.1, x.2.2], fun x => mkL g vf ve rule x.1 R.2 ++ [intR x.2.1 R.1.first, intR x.2.2 R.1.last]⟩
theorem build_shp0 (w : World) : (Instr.build 49 (#[] : Array (Nat × Value))).run Tryd.prog w = .ok (.agg #[.bool false, .slice none 0 0, .slice none 0 0]) w := by
  go_simp
theorem build_shpT (w : World) : (Instr.build 49 #[(0, .bool true)]).run Tryd.prog w = .ok (.agg #[.bool true, .slice none 0 0, .slice none 0 0]) w := by
  go_simp
/-- what a node's kids are called with -/
def NodeAt (M : Nat) : Prop := ∀ (e : Re), e.size ≤ M → ∀ (g : Nat) (vf ve : Value) (rule : Int) (p : PS) (x : MIx) (v : Value) (w : World) (B : Base), PSOk p → x.vs.length = p.follow.length → p.classes.length + e.size ≤ 100000 → kit.okI64 rule → RexR (OldB B) B.w v (emb e) → Mem B (mkL g vf ve rule x p) w →
  Calls Tryd.prog 11 #[.pointer (some ⟨g, 0, none⟩), v] w (MeetsB (nodeSp g vf ve rule (nodeF rule e p)) B)
set_option maxHeartbeats 8000000 in
theorem node_none (g : Nat) (vf ve : Value) (rule : Int) (p : PS) (x : MIx) (v : Value) (w : World) (B : Base) (hx : x.vs.length = p.follow.length) (hv : RexR (OldB B) B.w v (emb .none)) (hm : Mem B (mkL g vf ve rule x p) w) :
    Calls Tryd.prog 11 #[.pointer (some ⟨g, 0, none⟩), v] w (MeetsB (nodeSp g vf ve rule (nodeF rule .none p)) B) := by
  obtain ⟨vk, rfl, _, hks⟩ := hv
  obtain ⟨bk, ck, rfl, -⟩ := hks
  unfold mkL at hm
  refine enterB hm (args := [.pointer (some ⟨g, 0, none⟩), rexV (emb .none).kind (emb .none).cls (.slice bk (emb .none).kids.length ck)]) (n := 176) Tryd.func11 rfl rfl rfl ?_
  clear hm
  refine T_seq (T_region (TL_box rfl rfl rfl fun g3 => TL_new rfl fun g4 => ?_))
  conv => arg 8; simp only [zA, zB, zC, zD, zE, zF, zG, zH, zI, rowS, ret, id_eq]
  repeat (first
    | refine qv rfl (qp rfl) rfl rfl ?_ | refine TL_nil ?_ | refine T_seq ?_ | refine T_region ?_ | refine qcT rfl ?_ | refine qcF rfl ?_ | refine T_skip ?_
    | refine T_ret ?_ | refine T_block ?_ | refine E_then ?_ | refine E_thenR ?_ | refine E_blockN ?_ | refine E_blockR ?_
    | refine qs rfl rfl rfl rfl rfl rfl ?_
    | ((try refine qg rfl rfl rfl ?_); first | refine qv rfl (qp rfl) rfl rfl ?_ | refine qv rfl (rr_load1 (v := .int .i64 1) TyC.ty rfl (at_blk (i := 6) rfl rfl)) rfl rfl ?_ | refine qv rfl (rr_build rfl build_shp0) rfl rfl ?_ | refine qv rfl (qlen Und.eq rfl) rfl rfl ?_ | refine qv rfl (qfld FldC.fld rfl rfl) rfl rfl ?_ | refine qv rfl (rr_nilc rfl) rfl rfl ?_ | refine qv rfl (rr_eql rfl rfl (qT (by omega))) rfl rfl ?_ | refine qv rfl (rr_eql rfl rfl (qF (by omega))) rfl rfl ?_))
  refine TL_storeB (i := 7) rfl rfl rfl rfl rfl rfl ?_
  conv => arg 8; simp only [zA, zB, zC, zD, zE, zF, zG, zH, zI, rowS, ret, id_eq]
  repeat (first
    | refine qv rfl (qp rfl) rfl rfl ?_ | refine TL_nil ?_ | refine T_seq ?_ | refine T_region ?_ | refine qcT rfl ?_ | refine qcF rfl ?_ | refine T_skip ?_
    | refine T_ret ?_ | refine T_block ?_ | refine E_then ?_ | refine E_thenR ?_ | refine E_blockN ?_ | refine E_blockR ?_
    | refine qs rfl rfl rfl rfl rfl rfl ?_
    | ((try refine qg rfl rfl rfl ?_); first | refine qv rfl (qp rfl) rfl rfl ?_ | refine qv rfl (qlen Und.eq rfl) rfl rfl ?_ | refine qv rfl (qfld FldC.fld rfl rfl) rfl rfl ?_ | refine qv rfl (rr_nilc rfl) rfl rfl ?_ | refine qv rfl (rr_eql rfl rfl (qT (by omega))) rfl rfl ?_ | refine qv rfl (rr_eql rfl rfl (qF (by omega))) rfl rfl ?_))
  refine E_nilrow 3 1 (E_nilrow 3 1 ?_)
  exact E_retc1 (i := 7) rfl rfl rfl rfl fun w hm => hm.meetsB (S := nodeSp g vf ve rule (nodeF rule .none p)) (x, .slice none 0 0, .slice none 0 0) hx [0, 1, 2, 3, 4, 5, 8, 9] (by decide) rfl
set_option maxHeartbeats 8000000 in
theorem node_empty (g : Nat) (vf ve : Value) (rule : Int) (p : PS) (x : MIx) (v : Value) (w : World) (B : Base) (hx : x.vs.length = p.follow.length) (hv : RexR (OldB B) B.w v (emb .empty)) (hm : Mem B (mkL g vf ve rule x p) w) :
    Calls Tryd.prog 11 #[.pointer (some ⟨g, 0, none⟩), v] w (MeetsB (nodeSp g vf ve rule (nodeF rule .empty p)) B) := by
  obtain ⟨vk, rfl, _, hks⟩ := hv
  obtain ⟨bk, ck, rfl, -⟩ := hks
  unfold mkL at hm
  refine enterB hm (args := [.pointer (some ⟨g, 0, none⟩), rexV (emb .empty).kind (emb .empty).cls (.slice bk (emb .empty).kids.length ck)]) (n := 176) Tryd.func11 rfl rfl rfl ?_
  clear hm
  refine T_seq (T_region (TL_box rfl rfl rfl fun g3 => TL_new rfl fun g4 => ?_))
  conv => arg 8; simp only [zA, zB, zC, zD, zE, zF, zG, zH, zI, rowS, ret, id_eq]
  repeat (first
    | refine qv rfl (qp rfl) rfl rfl ?_ | refine TL_nil ?_ | refine T_seq ?_ | refine T_region ?_ | refine qcT rfl ?_ | refine qcF rfl ?_ | refine T_skip ?_
    | refine T_ret ?_ | refine T_block ?_ | refine E_then ?_ | refine E_thenR ?_ | refine E_blockN ?_ | refine E_blockR ?_
    | refine qs rfl rfl rfl rfl rfl rfl ?_
    | ((try refine qg rfl rfl rfl ?_); first | refine qv rfl (qp rfl) rfl rfl ?_ | refine qv rfl (rr_load1 (v := .int .i64 2) TyC.ty rfl (at_blk (i := 6) rfl rfl)) rfl rfl ?_ | refine qv rfl (rr_build rfl build_shpT) rfl rfl ?_ | refine qv rfl (qlen Und.eq rfl) rfl rfl ?_ | refine qv rfl (qfld FldC.fld rfl rfl) rfl rfl ?_ | refine qv rfl (rr_nilc rfl) rfl rfl ?_ | refine qv rfl (rr_eql rfl rfl (qT (by omega))) rfl rfl ?_ | refine qv rfl (rr_eql rfl rfl (qF (by omega))) rfl rfl ?_))
  refine TL_storeB (i := 7) rfl rfl rfl rfl rfl rfl ?_
  conv => arg 8; simp only [zA, zB, zC, zD, zE, zF, zG, zH, zI, rowS, ret, id_eq]
  repeat (first
    | refine qv rfl (qp rfl) rfl rfl ?_ | refine TL_nil ?_ | refine T_seq ?_ | refine T_region ?_ | refine qcT rfl ?_ | refine qcF rfl ?_ | refine T_skip ?_
    | refine T_ret ?_ | refine T_block ?_ | refine E_then ?_ | refine E_thenR ?_ | refine E_blockN ?_ | refine E_blockR ?_
    | refine qs rfl rfl rfl rfl rfl rfl ?_
    | ((try refine qg rfl rfl rfl ?_); first | refine qv rfl (qp rfl) rfl rfl ?_ | refine qv rfl (qlen Und.eq rfl) rfl rfl ?_ | refine qv rfl (qfld FldC.fld rfl rfl) rfl rfl ?_ | refine qv rfl (rr_nilc rfl) rfl rfl ?_ | refine qv rfl (rr_eql rfl rfl (qT (by omega))) rfl rfl ?_ | refine qv rfl (rr_eql rfl rfl (qF (by omega))) rfl rfl ?_))
  refine E_nilrow 3 1 (E_nilrow 3 1 ?_)
  exact E_retc1 (i := 7) rfl rfl rfl rfl fun w hm => hm.meetsB (S := nodeSp g vf ve rule (nodeF rule .empty p)) (x, .slice none 0 0, .slice none 0 0) hx [0, 1, 2, 3, 4, 5, 8, 9] (by decide) rfl
/-- the maker's rule, which nodes leave alone -/
def ruleO (g : Nat) (rule : Int) : Own :=
  ⟨some g, fun _ => False, fun w => ∃ vc vr vf vfol vl ve, w.heap[g]? = some (.cells (mkC vc vr vf vfol vl ve rule) 47 (0, 0)), fun w ⟨_, _, _, _, _, _, h⟩ k hk => by simp only [Option.some.injEq, or_false] at hk; subst hk; exact (Array.getElem?_eq_some_iff.1 h).1,
    fun w w' ⟨vc, vr, vf, vfol, vl, ve, h⟩ _ hb => ⟨vc, vr, vf, vfol, vl, ve, by rw [hb g (.inl rfl)]; exact h⟩⟩
theorem sub_rule {B : Base} {L : List Own} {g : Nat} {vc vr vf vfol vl ve : Value} {rule : Int} (h : L[0]? = some (blkO g (mkC vc vr vf vfol vl ve rule) 47)) : ∀ w, Mem B L w → Mem B [ruleO g rule] w := fun w hm => by
  have h1 := hm.pick (L' := [blkO g (mkC vc vr vf vfol vl ve rule) 47]) [0] (by decide) (by simp [h])
  exact h1.reownAt (i := 0) (ruleO g rule) rfl ⟨vc, vr, vf, vfol, vl, ve, h1.get (i := 0) rfl⟩ fun k hk => hk
theorem at_rule {B : Base} {L : List Own} {g i : Nat} {rule : Int} (h : L[i]? = some (ruleO g rule)) : At B L ⟨g, 6, none⟩ (.int .i64 rule) := fun w hm => by
  obtain ⟨vc, vr, vf, vfol, vl, ve, h⟩ := (hm.get h : (ruleO g rule).holds w)
  rw [cell_of_row w g 6 _ _ _ h]; rfl
theorem cls_one (c : C4) (u : Value) (h : u ∈ clsL c) : u.oneCell' = true := by
  simp only [clsL, List.mem_cons, List.not_mem_nil, or_false] at h
  rcases h with rfl | rfl | rfl | rfl <;> rfl
theorem rexcls_at (c : C4) {k : Int} {vk v : Value} {j : Nat} (hj : (clsL c)[j]? = some v) : ((rexC k c vk).toArray)[1 + j]? = some v := by
  match j, hj with
  | 0, hj => exact hj
  | 1, hj => exact hj
  | 2, hj => exact hj
  | 3, hj => exact hj
theorem build_shp2 (b b' : Option Addr) (m m' k k' : Nat) (w : World) : (Instr.build 49 #[(1, .slice b m k), (2, .slice b' m' k')]).run Tryd.prog w = .ok (.agg #[.bool false, .slice b m k, .slice b' m' k']) w := by
  go_simp
theorem intR_snoc (v : Value) (l : List Int) (x : Int) : rowO 3 1 v (l.length + 1) (l.map (Value.int .i64) ++ [.int .i64 x]) = intR v (l ++ [x]) := by
  show _ = rowO 3 1 v (l ++ [x]).length ((l ++ [x]).map (Value.int .i64))
  rw [List.length_append, List.map_append]; rfl
theorem fol_snoc (v : Value) (l : List Value) (x : Value) : rowO 24 1 v (l.length + 1) (l.flatMap one1 ++ [x]) = folR v (l ++ [x]) := by
  show _ = rowO 24 1 v (l ++ [x]).length ((l ++ [x]).flatMap one1)
  rw [List.length_append, List.flatMap_append]; rfl
theorem bool_snoc (v : Value) (l : List Bool) (x : Bool) : rowO 4 1 v (l.length + 1) (l.map Value.bool ++ [.bool x]) = rowO 4 1 v (l ++ [x]).length ((l ++ [x]).map Value.bool) := by
  rw [List.length_append, List.map_append]; rfl
theorem one_row {w : World} {g : Nat} {n : Int} (h : (blkO g #[.int .i64 n] 3).holds w) : (intR (.slice (some ⟨g, 0, none⟩) 1 1) [n]).holds w :=
  ⟨rfl, .inr ⟨g, 1, _, rfl, Nat.zero_le _, h, Nat.le_refl _, by decide, rfl, rfl⟩⟩
set_option maxHeartbeats 16000000 in
theorem node_byte (c : C4) (g : Nat) (vf ve : Value) (rule : Int) (p : PS) (x : MIx) (v : Value) (w : World) (B : Base) (hp : PSOk p) (hx : x.vs.length = p.follow.length) (hn : p.classes.length ≤ 100000) (hv : RexR (OldB B) B.w v (emb (.byte c))) (hm : Mem B (mkL g vf ve rule x p) w) :
    Calls Tryd.prog 11 #[.pointer (some ⟨g, 0, none⟩), v] w (MeetsB (nodeSp g vf ve rule (nodeF rule (.byte c) p)) B) := by
  obtain ⟨vk, rfl, _, hks⟩ := hv
  obtain ⟨bk, ck, rfl, -⟩ := hks
  obtain ⟨vc, vr, vfol, vl, vs, F⟩ := x
  unfold mkL at hm
  dsimp only at hx hm
  refine enterB hm (args := [.pointer (some ⟨g, 0, none⟩), rexV (emb (.byte c)).kind (emb (.byte c)).cls (.slice bk (emb (.byte c)).kids.length ck)]) (n := 176) Tryd.func11 rfl rfl rfl ?_
  clear hm
  refine T_seq (T_region (TL_box rfl rfl rfl fun g3 => TL_new rfl fun g4 => ?_))
  conv => arg 8; simp only [zA, zB, zC, zD, zE, zF, zG, zH, zI, rowS, ret, id_eq]
  refine TL_rowv (i := 1) rfl fun bc cc hvc hc1 hc2 => ?_
  subst hvc
  repeat (first
    | refine qv rfl (qp rfl) rfl rfl ?_ | refine TL_nil ?_ | refine T_seq ?_ | refine T_region ?_ | refine qcT rfl ?_ | refine qcF rfl ?_ | refine T_skip ?_
    | refine T_ret ?_ | refine T_block ?_ | refine E_then ?_ | refine E_thenR ?_ | refine E_blockN ?_ | refine E_blockR ?_
    | refine qs rfl rfl rfl rfl rfl rfl ?_
    | ((try refine qg rfl rfl rfl ?_); first | refine qv rfl (qp rfl) rfl rfl ?_ | refine qv rfl (rr_load1 (v := .int .i64 3) TyC.ty rfl (at_blk (i := 6) rfl rfl)) rfl rfl ?_ | refine qv rfl (rr_nilc rfl) rfl rfl ?_ | refine qv rfl (rr_load1 (v := .slice bc p.classes.length cc) TyC.ty rfl (at_blk (i := 0) rfl rfl)) rfl rfl ?_ | refine qv rfl (qlen Und.eq rfl) rfl rfl ?_ | refine qv rfl (qfld FldC.fld rfl rfl) rfl rfl ?_ | refine qv rfl (rr_nilc rfl) rfl rfl ?_ | refine qv rfl (rr_eql rfl rfl (qT (by omega))) rfl rfl ?_ | refine qv rfl (rr_eql rfl rfl (qF (by omega))) rfl rfl ?_))
  (repeat refine T_seq ?_)
  refine T_midq (ι := Value) (fun _ => True) (fun _ => [(0, .pointer (some ⟨g, 0, none⟩)), (3, .pointer (some ⟨g3, 0, none⟩)), (4, .pointer (some ⟨g4, 0, none⟩)), (5, .int .i64 p.classes.length)])
    (fun vc' => [blkO g (mkC vc' vr vf vfol vl ve rule) 47, rowO 34 4 vc' (p.classes ++ [c]).length ((p.classes ++ [c]).flatMap clsL), intR vr p.rules, folR vfol vs, folE F vs p.follow, rowO 4 1 vl p.last.length (p.last.map Value.bool), blkO g4 #[.bool false, .slice none 0 0, .slice none 0 0] 49]) ?_ ?_
  · refine T_ord ([blkO g3 (rexC 3 c (.slice bk 0 ck)).toArray 36]) (.calm 0 (.calm 1 (.calm 2 (.calm 3 (.calm 4 (.calm 6 (.calm 7 (.two 5 (.one 8 (.one 9 (.calm 10 (.calm 11 (.calm 12 (.one 13 (.done))))))) 8 (.one 5 (.one 9 (.calm 10 (.calm 11 (.calm 12 (.one 13 (.done))))))))))))))) (sub_pick [6] (by decide) rfl) (by kernel_rfl) (by kernel_rfl) (by intro c a d v w h; cases d <;> exact h) ?_
    repeat (first
      | ((first | refine TW_plain rfl rfl ?_ | refine TW_gmet rfl rfl rfl rfl ?_); first | refine TN_val (qp rfl) rfl rfl ?_ | refine TN_val (rr_nilc rfl) rfl rfl ?_ | refine TN_val (rr_loadN (cs := clsL c) TyC.ty rfl rfl (fun j v hj => at_blk (i := 0) rfl (rexcls_at c hj))) rfl rfl ?_ | refine TN_val (qlen Und.eq rfl) rfl rfl ?_ | refine TN_val (qfld FldC.fld rfl rfl) rfl rfl ?_ | refine TN_val (rr_nilc rfl) rfl rfl ?_ | refine TN_val (rr_eql rfl rfl (qT (by omega))) rfl rfl ?_ | refine TN_val (rr_eql rfl rfl (qF (by omega))) rfl rfl ?_)
      | refine TW_skip rfl rfl rfl rfl rfl rfl rfl ?_ | refine TW_done ?_)
    refine TW_two rfl rfl ?_ ?_
    · refine TL_val (rr_load1 (v := .slice bc p.classes.length cc) TyC.ty rfl (at_blk (i := 0) rfl rfl)) rfl rfl rfl (TW_on (sub_pick [6] (by decide) rfl) ?_)
      refine TW_one rfl (TL_litN (cs := (clsL c).toArray) [clsV c] rfl rfl rfl (by intro v hv; simp at hv; subst hv; rfl) rfl rfl rfl fun g33 => (TW_on (sub_pick [6] (by decide) rfl) ?_))
      refine TW_one rfl (TL_appSl (i := 1) (e := 34) (size := 4) (bytes := 32) (m := p.classes.length) (xs := p.classes.flatMap clsL) (k := 1) (ys := clsL c) rfl (sl_blk (i := 8) rfl (fun j u h => by simpa using h) (Nat.le_refl 1) (by decide)) rfl rfl rfl (fun u hu => cls_one c u hu) (by omega) (by omega) rfl fun vc' => (TW_on (sub_pick [6] (by decide) rfl) ?_))
      repeat (first
        | ((first | refine TW_plain rfl rfl ?_ | refine TW_gmet rfl rfl rfl rfl ?_); first | refine TN_val (qp rfl) rfl rfl ?_ | refine TN_val (rr_nilc rfl) rfl rfl ?_ | refine TN_val (qlen Und.eq rfl) rfl rfl ?_ | refine TN_val (qfld FldC.fld rfl rfl) rfl rfl ?_ | refine TN_val (rr_nilc rfl) rfl rfl ?_ | refine TN_val (rr_eql rfl rfl (qT (by omega))) rfl rfl ?_ | refine TN_val (rr_eql rfl rfl (qF (by omega))) rfl rfl ?_)
        | refine TW_skip rfl rfl rfl rfl rfl rfl rfl ?_ | refine TW_done ?_)
      refine TW_one rfl (TL_slv (i := 1) rfl fun hv1 hv2 => TL_store1 (i := 0) rfl rfl rfl hv1 hv2 rfl (TW_on (sub_pick [6] (by decide) rfl) ?_))
      repeat (first
        | ((first | refine TW_plain rfl rfl ?_ | refine TW_gmet rfl rfl rfl rfl ?_); first | refine TN_val (qp rfl) rfl rfl ?_ | refine TN_val (qlen Und.eq rfl) rfl rfl ?_ | refine TN_val (qfld FldC.fld rfl rfl) rfl rfl ?_ | refine TN_val (rr_nilc rfl) rfl rfl ?_ | refine TN_val (rr_eql rfl rfl (qT (by omega))) rfl rfl ?_ | refine TN_val (rr_eql rfl rfl (qF (by omega))) rfl rfl ?_)
        | refine TW_skip rfl rfl rfl rfl rfl rfl rfl ?_ | refine TW_done ?_)
      refine E_pick [0, 1, 2, 3, 4, 5, 7] (by decide) rfl ?_
      exact E_mid vc' trivial (by repeat' (first | exact True.intro | refine And.intro rfl ?_)) (by rw [List.length_append, List.flatMap_append]; rfl)
    · refine TL_litN (cs := (clsL c).toArray) [clsV c] rfl rfl rfl (by intro v hv; simp at hv; subst hv; rfl) rfl rfl rfl fun g33 => (TW_on (sub_pick [6] (by decide) rfl) ?_)
      refine TW_one rfl (TL_val (rr_load1 (v := .slice bc p.classes.length cc) TyC.ty rfl (at_blk (i := 0) rfl rfl)) rfl rfl rfl (TW_on (sub_pick [6] (by decide) rfl) ?_))
      refine TW_one rfl (TL_appSl (i := 1) (e := 34) (size := 4) (bytes := 32) (m := p.classes.length) (xs := p.classes.flatMap clsL) (k := 1) (ys := clsL c) rfl (sl_blk (i := 8) rfl (fun j u h => by simpa using h) (Nat.le_refl 1) (by decide)) rfl rfl rfl (fun u hu => cls_one c u hu) (by omega) (by omega) rfl fun vc' => (TW_on (sub_pick [6] (by decide) rfl) ?_))
      repeat (first
        | ((first | refine TW_plain rfl rfl ?_ | refine TW_gmet rfl rfl rfl rfl ?_); first | refine TN_val (qp rfl) rfl rfl ?_ | refine TN_val (rr_nilc rfl) rfl rfl ?_ | refine TN_val (qlen Und.eq rfl) rfl rfl ?_ | refine TN_val (qfld FldC.fld rfl rfl) rfl rfl ?_ | refine TN_val (rr_nilc rfl) rfl rfl ?_ | refine TN_val (rr_eql rfl rfl (qT (by omega))) rfl rfl ?_ | refine TN_val (rr_eql rfl rfl (qF (by omega))) rfl rfl ?_)
        | refine TW_skip rfl rfl rfl rfl rfl rfl rfl ?_ | refine TW_done ?_)
      refine TW_one rfl (TL_slv (i := 1) rfl fun hv1 hv2 => TL_store1 (i := 0) rfl rfl rfl hv1 hv2 rfl (TW_on (sub_pick [6] (by decide) rfl) ?_))
      repeat (first
        | ((first | refine TW_plain rfl rfl ?_ | refine TW_gmet rfl rfl rfl rfl ?_); first | refine TN_val (qp rfl) rfl rfl ?_ | refine TN_val (qlen Und.eq rfl) rfl rfl ?_ | refine TN_val (qfld FldC.fld rfl rfl) rfl rfl ?_ | refine TN_val (rr_nilc rfl) rfl rfl ?_ | refine TN_val (rr_eql rfl rfl (qT (by omega))) rfl rfl ?_ | refine TN_val (rr_eql rfl rfl (qF (by omega))) rfl rfl ?_)
        | refine TW_skip rfl rfl rfl rfl rfl rfl rfl ?_ | refine TW_done ?_)
      refine E_pick [0, 1, 2, 3, 4, 5, 7] (by decide) rfl ?_
      exact E_mid vc' trivial (by repeat' (first | exact True.intro | refine And.intro rfl ?_)) (by rw [List.length_append, List.flatMap_append]; rfl)
  clear hc1 hc2
  intro vc' _
  repeat (first
    | refine qv rfl (qp rfl) rfl rfl ?_ | refine TL_nil ?_ | refine T_seq ?_ | refine T_region ?_ | refine qcT rfl ?_ | refine qcF rfl ?_ | refine T_skip ?_
    | refine T_ret ?_ | refine T_block ?_ | refine E_then ?_ | refine E_thenR ?_ | refine E_blockN ?_ | refine E_blockR ?_
    | refine qs rfl rfl rfl rfl rfl rfl ?_
    | ((try refine qg rfl rfl rfl ?_); first | refine qv rfl (qp rfl) rfl rfl ?_ | refine qv rfl (qlen Und.eq rfl) rfl rfl ?_ | refine qv rfl (qfld FldC.fld rfl rfl) rfl rfl ?_ | refine qv rfl (rr_nilc rfl) rfl rfl ?_ | refine qv rfl (rr_eql rfl rfl (qT (by omega))) rfl rfl ?_ | refine qv rfl (rr_eql rfl rfl (qF (by omega))) rfl rfl ?_))
  (repeat refine T_seq ?_)
  have hrl := hp.rules
  refine T_midq (ι := Value) (fun _ => True) (fun _ => [(0, .pointer (some ⟨g, 0, none⟩)), (4, .pointer (some ⟨g4, 0, none⟩)), (5, .int .i64 p.classes.length)])
    (fun vr' => [blkO g (mkC vc' vr' vf vfol vl ve rule) 47, rowO 34 4 vc' (p.classes ++ [c]).length ((p.classes ++ [c]).flatMap clsL), intR vr' (p.rules ++ [rule]), folR vfol vs, folE F vs p.follow, rowO 4 1 vl p.last.length (p.last.map Value.bool), blkO g4 #[.bool false, .slice none 0 0, .slice none 0 0] 49]) ?_ ?_
  · refine T_ord ([ruleO g rule]) (.calm 0 (.calm 1 (.calm 2 (.calm 3 (.calm 4 (.calm 6 (.calm 7 (.calm 8 (.calm 9 (.two 5 (.one 10 (.one 11 (.calm 12 (.calm 13 (.calm 14 (.one 15 (.done))))))) 10 (.one 5 (.one 11 (.calm 12 (.calm 13 (.calm 14 (.one 15 (.done))))))))))))))))) (sub_rule rfl) (by kernel_rfl) (by kernel_rfl) (by intro c a d v w h; cases d <;> exact h) ?_
    repeat (first
      | ((first | refine TW_plain rfl rfl ?_ | refine TW_gmet rfl rfl rfl rfl ?_); first | refine TN_val (qp rfl) rfl rfl ?_ | refine TN_val (rr_nilc rfl) rfl rfl ?_ | refine TN_val (rr_load1 (v := .int .i64 rule) TyC.ty rfl (at_rule (i := 0) rfl)) rfl rfl ?_ | refine TN_val (qlen Und.eq rfl) rfl rfl ?_ | refine TN_val (qfld FldC.fld rfl rfl) rfl rfl ?_ | refine TN_val (rr_nilc rfl) rfl rfl ?_ | refine TN_val (rr_eql rfl rfl (qT (by omega))) rfl rfl ?_ | refine TN_val (rr_eql rfl rfl (qF (by omega))) rfl rfl ?_)
      | refine TW_skip rfl rfl rfl rfl rfl rfl rfl ?_ | refine TW_done ?_)
    refine TW_two rfl rfl ?_ ?_
    · refine TL_val (rr_load1 (v := vr) TyC.ty rfl (at_blk (i := 0) rfl rfl)) rfl rfl rfl (TW_on (sub_rule rfl) ?_)
      refine TW_one rfl (TL_litN (cs := #[.int .i64 rule]) [.int .i64 rule] rfl rfl rfl (by intro v hv; simp at hv; subst hv; rfl) rfl rfl rfl fun g48 => (TW_on (sub_rule rfl) ?_))
      refine TW_one rfl (TL_appSl (i := 2) (e := 3) (size := 1) (bytes := 8) (m := p.rules.length) (xs := p.rules.map (Value.int .i64)) (k := 1) (ys := [.int .i64 rule]) rfl (sl_blk (i := 7) rfl (fun j u h => by simpa using h) (Nat.le_refl 1) (by decide)) rfl rfl rfl (fun u hu => by rw [List.mem_singleton.1 hu]; rfl) (by omega) (by omega) rfl fun vr' => (TW_on (sub_rule rfl) ?_))
      repeat (first
        | ((first | refine TW_plain rfl rfl ?_ | refine TW_gmet rfl rfl rfl rfl ?_); first | refine TN_val (qp rfl) rfl rfl ?_ | refine TN_val (rr_nilc rfl) rfl rfl ?_ | refine TN_val (qlen Und.eq rfl) rfl rfl ?_ | refine TN_val (qfld FldC.fld rfl rfl) rfl rfl ?_ | refine TN_val (rr_nilc rfl) rfl rfl ?_ | refine TN_val (rr_eql rfl rfl (qT (by omega))) rfl rfl ?_ | refine TN_val (rr_eql rfl rfl (qF (by omega))) rfl rfl ?_)
        | refine TW_skip rfl rfl rfl rfl rfl rfl rfl ?_ | refine TW_done ?_)
      refine TW_one rfl (TL_slv (i := 2) rfl fun hv1 hv2 => TL_store1 (i := 0) rfl rfl rfl hv1 hv2 rfl (TW_on (sub_rule (vc := vc') (vr := vr') (vf := vf) (vfol := vfol) (vl := vl) (ve := ve) rfl) ?_))
      repeat (first
        | ((first | refine TW_plain rfl rfl ?_ | refine TW_gmet rfl rfl rfl rfl ?_); first | refine TN_val (qp rfl) rfl rfl ?_ | refine TN_val (qlen Und.eq rfl) rfl rfl ?_ | refine TN_val (qfld FldC.fld rfl rfl) rfl rfl ?_ | refine TN_val (rr_nilc rfl) rfl rfl ?_ | refine TN_val (rr_eql rfl rfl (qT (by omega))) rfl rfl ?_ | refine TN_val (rr_eql rfl rfl (qF (by omega))) rfl rfl ?_)
        | refine TW_skip rfl rfl rfl rfl rfl rfl rfl ?_ | refine TW_done ?_)
      refine E_pick [0, 1, 2, 3, 4, 5, 6] (by decide) rfl ?_
      exact E_mid vr' trivial (by repeat' (first | exact True.intro | refine And.intro rfl ?_)) (by rw [← intR_snoc vr' p.rules rule]; rfl)
    · refine TL_litN (cs := #[.int .i64 rule]) [.int .i64 rule] rfl rfl rfl (by intro v hv; simp at hv; subst hv; rfl) rfl rfl rfl fun g48 => (TW_on (sub_rule rfl) ?_)
      refine TW_one rfl (TL_val (rr_load1 (v := vr) TyC.ty rfl (at_blk (i := 0) rfl rfl)) rfl rfl rfl (TW_on (sub_rule rfl) ?_))
      refine TW_one rfl (TL_appSl (i := 2) (e := 3) (size := 1) (bytes := 8) (m := p.rules.length) (xs := p.rules.map (Value.int .i64)) (k := 1) (ys := [.int .i64 rule]) rfl (sl_blk (i := 7) rfl (fun j u h => by simpa using h) (Nat.le_refl 1) (by decide)) rfl rfl rfl (fun u hu => by rw [List.mem_singleton.1 hu]; rfl) (by omega) (by omega) rfl fun vr' => (TW_on (sub_rule rfl) ?_))
      repeat (first
        | ((first | refine TW_plain rfl rfl ?_ | refine TW_gmet rfl rfl rfl rfl ?_); first | refine TN_val (qp rfl) rfl rfl ?_ | refine TN_val (rr_nilc rfl) rfl rfl ?_ | refine TN_val (qlen Und.eq rfl) rfl rfl ?_ | refine TN_val (qfld FldC.fld rfl rfl) rfl rfl ?_ | refine TN_val (rr_nilc rfl) rfl rfl ?_ | refine TN_val (rr_eql rfl rfl (qT (by omega))) rfl rfl ?_ | refine TN_val (rr_eql rfl rfl (qF (by omega))) rfl rfl ?_)
        | refine TW_skip rfl rfl rfl rfl rfl rfl rfl ?_ | refine TW_done ?_)
      refine TW_one rfl (TL_slv (i := 2) rfl fun hv1 hv2 => TL_store1 (i := 0) rfl rfl rfl hv1 hv2 rfl (TW_on (sub_rule (vc := vc') (vr := vr') (vf := vf) (vfol := vfol) (vl := vl) (ve := ve) rfl) ?_))
      repeat (first
        | ((first | refine TW_plain rfl rfl ?_ | refine TW_gmet rfl rfl rfl rfl ?_); first | refine TN_val (qp rfl) rfl rfl ?_ | refine TN_val (qlen Und.eq rfl) rfl rfl ?_ | refine TN_val (qfld FldC.fld rfl rfl) rfl rfl ?_ | refine TN_val (rr_nilc rfl) rfl rfl ?_ | refine TN_val (rr_eql rfl rfl (qT (by omega))) rfl rfl ?_ | refine TN_val (rr_eql rfl rfl (qF (by omega))) rfl rfl ?_)
        | refine TW_skip rfl rfl rfl rfl rfl rfl rfl ?_ | refine TW_done ?_)
      refine E_pick [0, 1, 2, 3, 4, 5, 6] (by decide) rfl ?_
      exact E_mid vr' trivial (by repeat' (first | exact True.intro | refine And.intro rfl ?_)) (by rw [← intR_snoc vr' p.rules rule]; rfl)
  intro vr' _
  have hfl := hp.follow
  have hll := hp.last
  repeat (first
    | refine qv rfl (qp rfl) rfl rfl ?_ | refine TL_nil ?_ | refine T_seq ?_ | refine T_region ?_ | refine qcT rfl ?_ | refine qcF rfl ?_ | refine T_skip ?_
    | refine T_ret ?_ | refine T_block ?_ | refine E_then ?_ | refine E_thenR ?_ | refine E_blockN ?_ | refine E_blockR ?_
    | refine qs rfl rfl rfl rfl rfl rfl ?_
    | ((try refine qg rfl rfl rfl ?_); first | refine qv rfl (qp rfl) rfl rfl ?_ | refine qv rfl (rr_nilc rfl) rfl rfl ?_ | refine qv rfl (rr_load1 (v := vfol) TyC.ty rfl (at_blk (i := 0) rfl rfl)) rfl rfl ?_ | refine qv rfl (qlen Und.eq rfl) rfl rfl ?_ | refine qv rfl (qfld FldC.fld rfl rfl) rfl rfl ?_ | refine qv rfl (rr_nilc rfl) rfl rfl ?_ | refine qv rfl (rr_eql rfl rfl (qT (by omega))) rfl rfl ?_ | refine qv rfl (rr_eql rfl rfl (qF (by omega))) rfl rfl ?_))
  refine TL_push1 (i := 3) (bytes := 24) rfl rfl rfl rfl rfl rfl (fun z h => by cases h; rfl) (by omega) (by omega) rfl fun z1 vfol' => ?_
  conv => arg 8; simp only [zA, zB, zC, zD, zE, zF, zG, zH, zI, rowS, ret, id_eq]
  repeat (first
    | refine qv rfl (qp rfl) rfl rfl ?_ | refine TL_nil ?_ | refine T_seq ?_ | refine T_region ?_ | refine qcT rfl ?_ | refine qcF rfl ?_ | refine T_skip ?_
    | refine T_ret ?_ | refine T_block ?_ | refine E_then ?_ | refine E_thenR ?_ | refine E_blockN ?_ | refine E_blockR ?_
    | refine qs rfl rfl rfl rfl rfl rfl ?_
    | ((try refine qg rfl rfl rfl ?_); first | refine qv rfl (qp rfl) rfl rfl ?_ | refine qv rfl (rr_nilc rfl) rfl rfl ?_ | refine qv rfl (qlen Und.eq rfl) rfl rfl ?_ | refine qv rfl (qfld FldC.fld rfl rfl) rfl rfl ?_ | refine qv rfl (rr_nilc rfl) rfl rfl ?_ | refine qv rfl (rr_eql rfl rfl (qT (by omega))) rfl rfl ?_ | refine qv rfl (rr_eql rfl rfl (qF (by omega))) rfl rfl ?_))
  refine TL_slv (i := 3) rfl fun hv1 hv2 => TL_store1 (i := 0) rfl rfl rfl hv1 hv2 rfl ?_
  conv => arg 8; simp only [zA, zB, zC, zD, zE, zF, zG, zH, zI, rowS, ret, id_eq]
  repeat (first
    | refine qv rfl (qp rfl) rfl rfl ?_ | refine TL_nil ?_ | refine T_seq ?_ | refine T_region ?_ | refine qcT rfl ?_ | refine qcF rfl ?_ | refine T_skip ?_
    | refine T_ret ?_ | refine T_block ?_ | refine E_then ?_ | refine E_thenR ?_ | refine E_blockN ?_ | refine E_blockR ?_
    | refine qs rfl rfl rfl rfl rfl rfl ?_
    | ((try refine qg rfl rfl rfl ?_); first | refine qv rfl (qp rfl) rfl rfl ?_ | refine qv rfl (rr_nilc rfl) rfl rfl ?_ | refine qv rfl (rr_load1 (v := vl) TyC.ty rfl (at_blk (i := 0) rfl rfl)) rfl rfl ?_ | refine qv rfl (qlen Und.eq rfl) rfl rfl ?_ | refine qv rfl (qfld FldC.fld rfl rfl) rfl rfl ?_ | refine qv rfl (rr_nilc rfl) rfl rfl ?_ | refine qv rfl (rr_eql rfl rfl (qT (by omega))) rfl rfl ?_ | refine qv rfl (rr_eql rfl rfl (qF (by omega))) rfl rfl ?_))
  refine TL_push1 (i := 5) (bytes := 1) rfl rfl rfl rfl rfl rfl (fun z h => by cases h; rfl) (by omega) (by omega) rfl fun z2 vl' => ?_
  conv => arg 8; simp only [zA, zB, zC, zD, zE, zF, zG, zH, zI, rowS, ret, id_eq]
  repeat (first
    | refine qv rfl (qp rfl) rfl rfl ?_ | refine TL_nil ?_ | refine T_seq ?_ | refine T_region ?_ | refine qcT rfl ?_ | refine qcF rfl ?_ | refine T_skip ?_
    | refine T_ret ?_ | refine T_block ?_ | refine E_then ?_ | refine E_thenR ?_ | refine E_blockN ?_ | refine E_blockR ?_
    | refine qs rfl rfl rfl rfl rfl rfl ?_
    | ((try refine qg rfl rfl rfl ?_); first | refine qv rfl (qp rfl) rfl rfl ?_ | refine qv rfl (rr_nilc rfl) rfl rfl ?_ | refine qv rfl (qlen Und.eq rfl) rfl rfl ?_ | refine qv rfl (qfld FldC.fld rfl rfl) rfl rfl ?_ | refine qv rfl (rr_nilc rfl) rfl rfl ?_ | refine qv rfl (rr_eql rfl rfl (qT (by omega))) rfl rfl ?_ | refine qv rfl (rr_eql rfl rfl (qF (by omega))) rfl rfl ?_))
  refine TL_slv (i := 5) rfl fun hv1 hv2 => TL_store1 (i := 0) rfl rfl rfl hv1 hv2 rfl ?_
  conv => arg 8; simp only [zA, zB, zC, zD, zE, zF, zG, zH, zI, rowS, ret, id_eq]
  repeat (first
    | refine qv rfl (qp rfl) rfl rfl ?_ | refine TL_nil ?_ | refine T_seq ?_ | refine T_region ?_ | refine qcT rfl ?_ | refine qcF rfl ?_ | refine T_skip ?_
    | refine T_ret ?_ | refine T_block ?_ | refine E_then ?_ | refine E_thenR ?_ | refine E_blockN ?_ | refine E_blockR ?_
    | refine qs rfl rfl rfl rfl rfl rfl ?_
    | ((try refine qg rfl rfl rfl ?_); first | refine qv rfl (qp rfl) rfl rfl ?_ | refine qv rfl (qlen Und.eq rfl) rfl rfl ?_ | refine qv rfl (qfld FldC.fld rfl rfl) rfl rfl ?_ | refine qv rfl (rr_nilc rfl) rfl rfl ?_ | refine qv rfl (rr_eql rfl rfl (qT (by omega))) rfl rfl ?_ | refine qv rfl (rr_eql rfl rfl (qF (by omega))) rfl rfl ?_))
  refine TL_litN (cs := #[.int .i64 p.classes.length]) [.int .i64 p.classes.length] rfl rfl rfl (by intro v hv; simp at hv; subst hv; rfl) rfl rfl rfl fun g76 => ?_
  conv => arg 8; simp only [zA, zB, zC, zD, zE, zF, zG, zH, zI, rowS, ret, id_eq]
  repeat (first
    | refine qv rfl (qp rfl) rfl rfl ?_ | refine TL_nil ?_ | refine T_seq ?_ | refine T_region ?_ | refine qcT rfl ?_ | refine qcF rfl ?_ | refine T_skip ?_
    | refine T_ret ?_ | refine T_block ?_ | refine E_then ?_ | refine E_thenR ?_ | refine E_blockN ?_ | refine E_blockR ?_
    | refine qs rfl rfl rfl rfl rfl rfl ?_
    | ((try refine qg rfl rfl rfl ?_); first | refine qv rfl (qp rfl) rfl rfl ?_ | refine qv rfl (qlen Und.eq rfl) rfl rfl ?_ | refine qv rfl (qfld FldC.fld rfl rfl) rfl rfl ?_ | refine qv rfl (rr_nilc rfl) rfl rfl ?_ | refine qv rfl (rr_eql rfl rfl (qT (by omega))) rfl rfl ?_ | refine qv rfl (rr_eql rfl rfl (qF (by omega))) rfl rfl ?_))
  refine TL_litN (cs := #[.int .i64 p.classes.length]) [.int .i64 p.classes.length] rfl rfl rfl (by intro v hv; simp at hv; subst hv; rfl) rfl rfl rfl fun g78 => ?_
  conv => arg 8; simp only [zA, zB, zC, zD, zE, zF, zG, zH, zI, rowS, ret, id_eq]
  repeat (first
    | refine qv rfl (qp rfl) rfl rfl ?_ | refine TL_nil ?_ | refine T_seq ?_ | refine T_region ?_ | refine qcT rfl ?_ | refine qcF rfl ?_ | refine T_skip ?_
    | refine T_ret ?_ | refine T_block ?_ | refine E_then ?_ | refine E_thenR ?_ | refine E_blockN ?_ | refine E_blockR ?_
    | refine qs rfl rfl rfl rfl rfl rfl ?_
    | ((try refine qg rfl rfl rfl ?_); first | refine qv rfl (qp rfl) rfl rfl ?_ | refine qv rfl (rr_build rfl (build_shp2 _ _ _ _ _ _)) rfl rfl ?_ | refine qv rfl (qlen Und.eq rfl) rfl rfl ?_ | refine qv rfl (qfld FldC.fld rfl rfl) rfl rfl ?_ | refine qv rfl (rr_nilc rfl) rfl rfl ?_ | refine qv rfl (rr_eql rfl rfl (qT (by omega))) rfl rfl ?_ | refine qv rfl (rr_eql rfl rfl (qF (by omega))) rfl rfl ?_))
  refine TL_storeB (i := 6) (cs' := #[.bool false, .slice (some ⟨g76, 0, none⟩) 1 1, .slice (some ⟨g78, 0, none⟩) 1 1]) rfl rfl rfl rfl rfl rfl ?_
  conv => arg 8; simp only [zA, zB, zC, zD, zE, zF, zG, zH, zI, rowS, ret, id_eq]
  repeat (first
    | refine qv rfl (qp rfl) rfl rfl ?_ | refine TL_nil ?_ | refine T_seq ?_ | refine T_region ?_ | refine qcT rfl ?_ | refine qcF rfl ?_ | refine T_skip ?_
    | refine T_ret ?_ | refine T_block ?_ | refine E_then ?_ | refine E_thenR ?_ | refine E_blockN ?_ | refine E_blockR ?_
    | refine qs rfl rfl rfl rfl rfl rfl ?_
    | ((try refine qg rfl rfl rfl ?_); first | refine qv rfl (qp rfl) rfl rfl ?_ | refine qv rfl (qlen Und.eq rfl) rfl rfl ?_ | refine qv rfl (qfld FldC.fld rfl rfl) rfl rfl ?_ | refine qv rfl (rr_nilc rfl) rfl rfl ?_ | refine qv rfl (rr_eql rfl rfl (qT (by omega))) rfl rfl ?_ | refine qv rfl (rr_eql rfl rfl (qF (by omega))) rfl rfl ?_))
  refine E_reown (i := 7) (intR (.slice (some ⟨g76, 0, none⟩) 1 1) [(p.classes.length : Int)]) rfl (fun w h => one_row h) (fun k hk => hk) ?_
  refine E_reown (i := 8) (intR (.slice (some ⟨g78, 0, none⟩) 1 1) [(p.classes.length : Int)]) rfl (fun w h => one_row h) (fun k hk => hk) ?_
  refine E_reown (i := 4) (folE (fun k => F k ∨ False) (vs ++ [.slice none 0 0]) (p.follow ++ [[]])) rfl (fun w h => by
    have := els_snoc (F2 := fun _ => False) h (show folS.is (fun _ => False) w [.slice none 0 0] [] from ⟨_, rfl, fun _ h => (by cases h), ⟨rfl, .inl ⟨rfl, rfl⟩⟩, fun _ h => (by cases h)⟩) (fun k hk => hk.elim)
    rw [show vs.map one1 ++ [[Value.slice none 0 0]] = (vs ++ [Value.slice none 0 0]).map one1 by rw [List.map_append]; rfl] at this
    exact this) (fun k hk => hk.elim (fun h => by cases h) fun h => h.elim (fun h => .inr h) False.elim) ?_
  refine E_retc1 (i := 6) rfl rfl rfl rfl fun w hm => ?_
  refine hm.meetsB (S := nodeSp g vf ve rule (nodeF rule (.byte c) p)) (⟨vc', vr', vfol', vl', vs ++ [.slice none 0 0], fun k => F k ∨ False⟩, .slice (some ⟨g76, 0, none⟩) 1 1, .slice (some ⟨g78, 0, none⟩) 1 1) (by show (vs ++ [_]).length = (p.follow ++ [[]]).length; rw [List.length_append, List.length_append, hx]; rfl) [0, 1, 2, 3, 4, 5, 7, 8] (by decide) ?_
  show [_, _, _, folR vfol' (vs ++ [Value.slice none 0 0]), _, rowO 4 1 vl' (p.last ++ [false]).length ((p.last ++ [false]).map Value.bool), _, _] = _
  rw [← fol_snoc, ← bool_snoc]; rfl
end Go.Proofs.YtndbaalenclgaaaDoor.eng

/- PlS -/
namespace Go.Proofs.YtndbaalenclgaaaDoor.eng
open Go.RowKit kit mix classL rexL placesL
set_option maxHeartbeats 16000000 in
theorem node_star {M : Nat} (IH : NodeAt M) (a : Re) (ha : a.size ≤ M) (g : Nat) (vf ve : Value) (rule : Int) (p : PS) (x : MIx) (v : Value) (w : World) (B : Base) (hp : PSOk p) (hx : x.vs.length = p.follow.length) (hn : p.classes.length + (a.size + 1) ≤ 100000) (hr64 : kit.okI64 rule) (hv : RexR (OldB B) B.w v (emb (.star a))) (hm : Mem B (mkL g vf ve rule x p) w) :
    Calls Tryd.prog 11 #[.pointer (some ⟨g, 0, none⟩), v] w (MeetsB (nodeSp g vf ve rule (nodeF rule (.star a) p)) B) := by
  obtain ⟨vk, rfl, _, hks⟩ := hv
  obtain ⟨bk, ck, rfl, h1, h2, h3⟩ := hks
  obtain ⟨b, off, rfl, hF, hrd⟩ := h3 (by show 0 < 1; decide)
  obtain ⟨kb, kc, hr, hkid⟩ := rkid_at (k := 0) hrd (by show 0 < 1; decide)
  have hat := fun (L : List Own) (j : Nat) (v : Value) hj => at_oldB (L := L) hF hr j v hj
  clear h3 hrd hr
  obtain ⟨hp1, hp2, hp3, hp4, hp5⟩ := node_ok rule a p hp
  have hspec : nodeF rule (.star a) p = (⟨true, (nodeF rule a p).1.first, (nodeF rule a p).1.last⟩, { (nodeF rule a p).2 with follow := behindF (nodeF rule a p).2.follow (nodeF rule a p).1.last (nodeF rule a p).1.first }) := rfl
  have hIH := fun w B hv hm => IH a ha g vf ve rule p x (rexV (emb a).kind (emb a).cls (.slice kb (emb a).kids.length kc)) w B hp hx (by omega) hr64 hv hm
  rw [hspec]
  generalize nodeF rule a p = R at *
  obtain ⟨⟨e, first, last⟩, p'⟩ := R
  dsimp only at hp1 hp2 hp3 hp4 hp5 ⊢
  clear hspec
  unfold mkL at hm
  refine enterB hm (args := [.pointer (some ⟨g, 0, none⟩), rexV 6 C4.zero (.slice (some ⟨b, off, none⟩) 1 ck)]) (n := 176) Tryd.func11 rfl rfl rfl ?_
  clear hm
  refine T_seq (T_region (TL_box rfl rfl rfl fun g3 => TL_new rfl fun g4 => ?_))
  conv => arg 8; simp only [zA, zB, zC, zD, zE, zF, zG, zH, zI, rowS, ret, id_eq]
  repeat (first
    | refine qv rfl (qp rfl) rfl rfl ?_ | refine TL_nil ?_ | refine T_seq ?_ | refine T_region ?_ | refine qcT rfl ?_ | refine qcF rfl ?_ | refine T_skip ?_
    | refine T_ret ?_ | refine T_block ?_ | refine E_then ?_ | refine E_thenR ?_ | refine E_blockN ?_ | refine E_blockR ?_
    | refine qs rfl rfl rfl rfl rfl rfl ?_
    | ((try refine qg rfl rfl rfl ?_); first | refine qv rfl (qp rfl) rfl rfl ?_ | refine qv rfl (rr_load1 (v := .int .i64 6) TyC.ty rfl (at_blk (i := 6) rfl rfl)) rfl rfl ?_ | refine qv rfl (rr_load1 (v := .slice (some ⟨b, off, none⟩) 1 ck) TyC.ty rfl (at_blk (i := 6) rfl rfl)) rfl rfl ?_ | refine qv rfl (rr_idxc (j := 0) Und.eq TyC.ty rfl rfl (by decide)) rfl rfl ?_ | refine qv rfl (rr_loadN TyC.ty rfl rfl (hat _)) rfl rfl ?_ | refine qv rfl (qlen Und.eq rfl) rfl rfl ?_ | refine qv rfl (qfld FldC.fld rfl rfl) rfl rfl ?_ | refine qv rfl (rr_nilc rfl) rfl rfl ?_ | refine qv rfl (rr_eql rfl rfl (qT (by omega))) rfl rfl ?_ | refine qv rfl (rr_eql rfl rfl (qF (by omega))) rfl rfl ?_))
  refine TL_callB [0, 1, 2, 3, 4, 5] [6, 7] (by decide) rfl rfl (he2 EntersC.en rfl rfl rfl) (fun w hm hb => hIH w _ (rex_on (hm.pick [0, 1, 2, 3, 4, 5] (by decide) rfl) hkid) hb) rfl rfl rfl ?_
  rintro ⟨⟨vc, vr, vfol, vl, vs, F⟩, va, vb⟩ hx'
  have hx' : vs.length = p'.follow.length := hx'
  conv => arg 8; simp only [zA, zB, zC, zD, zE, zF, zG, zH, zI, rowS, ret, id_eq, nodeSp, mkL]
  conv => arg 7; simp only [nodeSp]
  refine TL_slv (i := 8) rfl fun hva1 hva2 => ?_
  refine TL_slv (i := 9) rfl fun hvb1 hvb2 => ?_
  refine TL_new rfl fun g6 => ?_
  conv => arg 8; simp only [zA, zB, zC, zD, zE, zF, zG, zH, zI, rowS, ret, id_eq]
  refine TL_storeB (i := 10) (cs' := #[.bool e, va, vb]) rfl rfl rfl rfl (by simp only [List.all_cons, List.all_nil, hva2, hvb2]; rfl) rfl ?_
  conv => arg 8; simp only [zA, zB, zC, zD, zE, zF, zG, zH, zI, rowS, ret, id_eq]
  repeat (first
    | refine qv rfl (qp rfl) rfl rfl ?_ | refine TL_nil ?_ | refine T_seq ?_ | refine T_region ?_ | refine qcT rfl ?_ | refine qcF rfl ?_ | refine T_skip ?_
    | refine T_ret ?_ | refine T_block ?_ | refine E_then ?_ | refine E_thenR ?_ | refine E_blockN ?_ | refine E_blockR ?_
    | refine qs rfl rfl rfl rfl rfl rfl ?_
    | ((try refine qg rfl rfl rfl ?_); first | refine qv rfl (qp rfl) rfl rfl ?_ | refine qv rfl (rr_load1 (v := vb) TyC.ty rfl (at_blk (i := 10) rfl rfl)) rfl rfl ?_ | refine qv rfl (rr_load1 (v := va) TyC.ty rfl (at_blk (i := 10) rfl rfl)) rfl rfl ?_ | refine qv rfl (qlen Und.eq rfl) rfl rfl ?_ | refine qv rfl (qfld FldC.fld rfl rfl) rfl rfl ?_ | refine qv rfl (rr_nilc rfl) rfl rfl ?_ | refine qv rfl (rr_eql rfl rfl (qT (by omega))) rfl rfl ?_ | refine qv rfl (rr_eql rfl rfl (qF (by omega))) rfl rfl ?_))
  refine TL_callB [2, 5, 6, 9, 8] [0, 1, 3, 4, 7, 10] (by decide) rfl rfl (he3 EntersC.en rfl rfl rfl rfl) (fun w hm hb => behind_calls g vc vr vf vfol vl ve rule vb va vs F p'.follow last first w _ hx' (by rw [hp1.follow]; omega) (by rw [hp1.follow]; exact hp1.ris) (by rw [hp1.follow]; exact hp5) (by rw [hp1.follow]; exact hp4) hb) rfl rfl rfl ?_
  rintro ⟨vs', F'⟩ hx2
  have hx2 : vs'.length = p'.follow.length := hx2
  conv => arg 8; simp only [zA, zB, zC, zD, zE, zF, zG, zH, zI, rowS, ret, id_eq, behSp]
  repeat (first
    | refine qv rfl (qp rfl) rfl rfl ?_ | refine TL_nil ?_ | refine T_seq ?_ | refine T_region ?_ | refine qcT rfl ?_ | refine qcF rfl ?_ | refine T_skip ?_
    | refine T_ret ?_ | refine T_block ?_ | refine E_then ?_ | refine E_thenR ?_ | refine E_blockN ?_ | refine E_blockR ?_
    | refine qs rfl rfl rfl rfl rfl rfl ?_
    | ((try refine qg rfl rfl rfl ?_); first | refine qv rfl (qp rfl) rfl rfl ?_ | refine qv rfl (qlen Und.eq rfl) rfl rfl ?_ | refine qv rfl (qfld FldC.fld rfl rfl) rfl rfl ?_ | refine qv rfl (rr_nilc rfl) rfl rfl ?_ | refine qv rfl (rr_eql rfl rfl (qT (by omega))) rfl rfl ?_ | refine qv rfl (rr_eql rfl rfl (qF (by omega))) rfl rfl ?_))
  refine TL_store1 (i := 5) rfl rfl rfl rfl rfl rfl ?_
  conv => arg 8; simp only [zA, zB, zC, zD, zE, zF, zG, zH, zI, rowS, ret, id_eq]
  repeat (first
    | refine qv rfl (qp rfl) rfl rfl ?_ | refine TL_nil ?_ | refine T_seq ?_ | refine T_region ?_ | refine qcT rfl ?_ | refine qcF rfl ?_ | refine T_skip ?_
    | refine T_ret ?_ | refine T_block ?_ | refine E_then ?_ | refine E_thenR ?_ | refine E_blockN ?_ | refine E_blockR ?_
    | refine qs rfl rfl rfl rfl rfl rfl ?_
    | ((try refine qg rfl rfl rfl ?_); first | refine qv rfl (qp rfl) rfl rfl ?_ | refine qv rfl (rr_loadB (i := 5) TyC.ty rfl rfl rfl) rfl rfl ?_ | refine qv rfl (qlen Und.eq rfl) rfl rfl ?_ | refine qv rfl (qfld FldC.fld rfl rfl) rfl rfl ?_ | refine qv rfl (rr_nilc rfl) rfl rfl ?_ | refine qv rfl (rr_eql rfl rfl (qT (by omega))) rfl rfl ?_ | refine qv rfl (rr_eql rfl rfl (qF (by omega))) rfl rfl ?_))
  refine TL_storeB (i := 1) (cs' := #[.bool true, va, vb]) rfl rfl rfl rfl (by simp only [List.all_cons, List.all_nil, hva2, hvb2]; rfl) rfl ?_
  conv => arg 8; simp only [zA, zB, zC, zD, zE, zF, zG, zH, zI, rowS, ret, id_eq]
  repeat (first
    | refine qv rfl (qp rfl) rfl rfl ?_ | refine TL_nil ?_ | refine T_seq ?_ | refine T_region ?_ | refine qcT rfl ?_ | refine qcF rfl ?_ | refine T_skip ?_
    | refine T_ret ?_ | refine T_block ?_ | refine E_then ?_ | refine E_thenR ?_ | refine E_blockN ?_ | refine E_blockR ?_
    | refine qs rfl rfl rfl rfl rfl rfl ?_
    | ((try refine qg rfl rfl rfl ?_); first | refine qv rfl (qp rfl) rfl rfl ?_ | refine qv rfl (qlen Und.eq rfl) rfl rfl ?_ | refine qv rfl (qfld FldC.fld rfl rfl) rfl rfl ?_ | refine qv rfl (rr_nilc rfl) rfl rfl ?_ | refine qv rfl (rr_eql rfl rfl (qT (by omega))) rfl rfl ?_ | refine qv rfl (rr_eql rfl rfl (qF (by omega))) rfl rfl ?_))
  refine E_retc1 (i := 1) rfl rfl rfl rfl fun w hm => ?_
  exact hm.meetsB (S := nodeSp g vf ve rule (⟨true, first, last⟩, { p' with follow := behindF p'.follow last first })) (⟨vc, vr, vfol, vl, vs', F'⟩, va, vb) (by show vs'.length = (behindF p'.follow last first).length; rw [behind_len]; exact hx2) [6, 2, 3, 7, 8, 4, 10, 9] (by decide) rfl
end Go.Proofs.YtndbaalenclgaaaDoor.eng

/- PlA -/
namespace Go.Proofs.YtndbaalenclgaaaDoor.eng
open Go.RowKit kit mix classL rexL placesL
theorem build_shpA (e : Bool) (b b' : Option Addr) (m m' k k' : Nat) (w : World) : (Instr.build 49 #[(0, .bool e), (1, .slice b m k), (2, .slice b' m' k')]).run Tryd.prog w = .ok (.agg #[.bool e, .slice b m k, .slice b' m' k']) w := by
  go_simp
set_option maxHeartbeats 32000000 in
set_option maxRecDepth 100000 in
theorem node_alt {M : Nat} (IH : NodeAt M) (a b1 : Re) (ha : a.size ≤ M) (hb1 : b1.size ≤ M) (g : Nat) (vf ve : Value) (rule : Int) (p : PS) (x : MIx) (v : Value) (w : World) (B : Base) (hp : PSOk p) (hx : x.vs.length = p.follow.length) (hn : p.classes.length + (a.size + b1.size + 1) ≤ 100000) (hr64 : kit.okI64 rule) (hv : RexR (OldB B) B.w v (emb (.alt a b1))) (hm : Mem B (mkL g vf ve rule x p) w) :
    Calls Tryd.prog 11 #[.pointer (some ⟨g, 0, none⟩), v] w (MeetsB (nodeSp g vf ve rule (nodeF rule (.alt a b1) p)) B) := by
  obtain ⟨vk, rfl, _, hks⟩ := hv
  obtain ⟨bk, ck, rfl, h1, h2, h3⟩ := hks
  obtain ⟨b, off, rfl, hF, hrd⟩ := h3 (by show 0 < 2; decide)
  obtain ⟨kb, kc, hr, hkid1⟩ := rkid_at (k := 0) hrd (by show 0 < 2; decide)
  obtain ⟨kb2, kc2, hr2, hkid2⟩ := rkid_at (k := 1) hrd (by show 1 < 2; decide)
  have hat1 := fun (L : List Own) (j : Nat) (v : Value) hj => at_oldB (L := L) hF hr j v hj
  have hat2 := fun (L : List Own) (j : Nat) (v : Value) hj => at_oldB (L := L) hF hr2 j v hj
  clear h3 hrd hr hr2
  obtain ⟨hp1, hp2, hp3, hp4, hp5⟩ := node_ok rule a p hp
  obtain ⟨kp1, kp2, kp3, kp4, kp5⟩ := node_ok rule b1 _ hp1
  have hI1 := fun w B hv hm => IH a ha g vf ve rule p x (rexV (emb a).kind (emb a).cls (.slice kb (emb a).kids.length kc)) w B hp hx (by omega) hr64 hv hm
  have hI2 := fun x1 hx1 w B hv hm => IH b1 hb1 g vf ve rule (nodeF rule a p).2 x1 (rexV (emb b1).kind (emb b1).cls (.slice kb2 (emb b1).kids.length kc2)) w B hp1 hx1 (by omega) hr64 hv hm
  rw [show nodeF rule (.alt a b1) p = (⟨(nodeF rule a p).1.empty || (nodeF rule b1 (nodeF rule a p).2).1.empty, uni (nodeF rule a p).1.first (nodeF rule b1 (nodeF rule a p).2).1.first, uni (nodeF rule a p).1.last (nodeF rule b1 (nodeF rule a p).2).1.last⟩, (nodeF rule b1 (nodeF rule a p).2).2) from rfl]
  generalize nodeF rule b1 (nodeF rule a p).2 = R2 at *
  generalize nodeF rule a p = R1 at *
  obtain ⟨⟨e1, first1, last1⟩, p1⟩ := R1
  obtain ⟨⟨e2, first2, last2⟩, p2⟩ := R2
  dsimp only at hp1 hp2 hp3 hp4 hp5 kp1 kp2 kp3 kp4 kp5 hI2 ⊢
  unfold mkL at hm
  refine enterB hm (args := [.pointer (some ⟨g, 0, none⟩), rexV 5 C4.zero (.slice (some ⟨b, off, none⟩) 2 ck)]) (n := 176) Tryd.func11 rfl rfl rfl ?_
  clear hm
  refine T_seq (T_region (TL_box rfl rfl rfl fun g3 => TL_new rfl fun g4 => ?_))
  conv => arg 8; simp only [zA, zB, zC, zD, zE, zF, zG, zH, zI, rowS, ret, id_eq]
  repeat (first
    | refine qv rfl (qp rfl) rfl rfl ?_ | refine TL_nil ?_ | refine T_seq ?_ | refine T_region ?_ | refine qcT rfl ?_ | refine qcF rfl ?_ | refine T_skip ?_
    | refine T_ret ?_ | refine T_block ?_ | refine E_then ?_ | refine E_thenR ?_ | refine E_blockN ?_ | refine E_blockR ?_
    | refine qs rfl rfl rfl rfl rfl rfl ?_
    | ((try refine qg rfl rfl rfl ?_); first | refine qv rfl (qp rfl) rfl rfl ?_ | refine qv rfl (rr_load1 (v := .int .i64 5) TyC.ty rfl (at_blk (i := 6) rfl rfl)) rfl rfl ?_ | refine qv rfl (qlen Und.eq rfl) rfl rfl ?_ | refine qv rfl (qfld FldC.fld rfl rfl) rfl rfl ?_ | refine qv rfl (rr_nilc rfl) rfl rfl ?_ | refine qv rfl (rr_eql rfl rfl (qT (by omega))) rfl rfl ?_ | refine qv rfl (rr_eql rfl rfl (qF (by omega))) rfl rfl ?_))
  (repeat refine T_seq ?_)
  refine T_midq (ι := MIx × Value × Value × Value × Value × Nat × Nat) (fun y => y.1.vs.length = p2.follow.length) (fun y => [(0, .pointer (some ⟨g, 0, none⟩)), (4, .pointer (some ⟨g4, 0, none⟩)), (7, .pointer (some ⟨y.2.2.2.2.2.1, 0, none⟩)), (8, .pointer (some ⟨y.2.2.2.2.2.2, 0, none⟩))])
    (fun y => mkL g vf ve rule y.1 p2 ++ [intR y.2.1 first1, intR y.2.2.1 last1, intR y.2.2.2.1 first2, intR y.2.2.2.2.1 last2, blkO g4 #[.bool false, .slice none 0 0, .slice none 0 0] 49, blkO y.2.2.2.2.2.1 #[.bool e1, y.2.1, y.2.2.1] 49, blkO y.2.2.2.2.2.2 #[.bool e2, y.2.2.2.1, y.2.2.2.2.1] 49]) ?_ ?_
  · refine T_ord ([blkO g3 (rexC 5 C4.zero (.slice (some ⟨b, off, none⟩) 2 ck)).toArray 36]) (.calm 0 (.calm 1 (.calm 2 (.calm 3 (.calm 4 (.calm 6 (.calm 7 (.calm 8 (.calm 9 (.calm 10 (.three 5 (.three 11 (.two 12 (.one 13 (.one 14 (.one 15 (.done)))) 13 (.one 12 (.one 14 (.one 15 (.done))))) 12 (.two 11 (.one 13 (.one 14 (.one 15 (.done)))) 13 (.one 11 (.one 14 (.one 15 (.done))))) 13 (.two 11 (.one 12 (.one 14 (.one 15 (.done)))) 12 (.one 11 (.one 14 (.one 15 (.done)))))) 12 (.two 5 (.two 11 (.one 13 (.one 14 (.one 15 (.done)))) 13 (.one 11 (.one 14 (.one 15 (.done))))) 13 (.one 5 (.one 11 (.one 14 (.one 15 (.done)))))) 13 (.two 5 (.two 11 (.one 12 (.one 14 (.one 15 (.done)))) 12 (.one 11 (.one 14 (.one 15 (.done))))) 12 (.one 5 (.one 11 (.one 14 (.one 15 (.done))))))))))))))))) (sub_pick [6] (by decide) rfl) (by kernel_rfl) (by kernel_rfl) (by intro c a d v w h; cases d <;> exact h) ?_
    repeat (first
      | ((first | refine TW_plain rfl rfl ?_ | refine TW_gmet rfl rfl rfl rfl ?_); first | refine TN_val (qp rfl) rfl rfl ?_ | refine TN_val (rr_load1 (v := .slice (some ⟨b, off, none⟩) 2 ck) TyC.ty rfl (at_blk (i := 0) rfl rfl)) rfl rfl ?_ | refine TN_val (rr_idxc (j := 0) Und.eq TyC.ty rfl rfl (by decide)) rfl rfl ?_ | refine TN_val (rr_idxc (j := 1) Und.eq TyC.ty rfl rfl (by decide)) rfl rfl ?_ | refine TN_val (rr_loadN TyC.ty rfl rfl (hat1 _)) rfl rfl ?_ | refine TN_val (rr_loadN TyC.ty rfl rfl (hat2 _)) rfl rfl ?_ | refine TN_val (qlen Und.eq rfl) rfl rfl ?_ | refine TN_val (qfld FldC.fld rfl rfl) rfl rfl ?_ | refine TN_val (rr_nilc rfl) rfl rfl ?_ | refine TN_val (rr_eql rfl rfl (qT (by omega))) rfl rfl ?_ | refine TN_val (rr_eql rfl rfl (qF (by omega))) rfl rfl ?_)
      | refine TW_skip rfl rfl rfl rfl rfl rfl rfl ?_ | refine TW_done ?_)
    refine TW_three rfl rfl rfl ?_ ?_ ?_
    · refine TL_callB [0, 1, 2, 3, 4, 5] [6, 7] (by decide) rfl rfl (he2 EntersC.en rfl rfl rfl) (fun w hm hb => hI1 w _ (rex_on (hm.pick [0, 1, 2, 3, 4, 5] (by decide) rfl) hkid1) hb) rfl rfl rfl ?_
      rintro ⟨⟨vc1, vr1, vfol1, vl1, vs1, F1⟩, va1, vb1⟩ hx1
      have hx1 : vs1.length = p1.follow.length := hx1
      conv => arg 8; simp only [zA, zB, zC, zD, zE, zF, zG, zH, zI, rowS, ret, id_eq, nodeSp, mkL]
      conv => arg 7; simp only [nodeSp]
      refine TW_on (sub_pick [0] (by decide) rfl) ?_
      refine TW_three rfl rfl rfl ?_ ?_ ?_
      · refine TL_callB [2, 3, 4, 5, 6, 7] [0, 1, 8, 9] (by decide) rfl rfl (he2 EntersC.en rfl rfl rfl) (fun w hm hb => hI2 ⟨vc1, vr1, vfol1, vl1, vs1, F1⟩ hx1 w _ (rex_on (hm.pick [2, 3, 4, 5, 6, 7] (by decide) rfl) hkid2) hb) rfl rfl rfl ?_
        rintro ⟨⟨vc2, vr2, vfol2, vl2, vs2, F2⟩, va2, vb2⟩ hx2
        have hx2 : vs2.length = p2.follow.length := hx2
        conv => arg 8; simp only [zA, zB, zC, zD, zE, zF, zG, zH, zI, rowS, ret, id_eq, nodeSp, mkL]
        conv => arg 7; simp only [nodeSp]
        refine TW_on (sub_pick [0] (by decide) rfl) ?_
        refine TW_two rfl rfl ?_ ?_
        · refine TL_new rfl fun g7 => (TW_on (sub_pick [0] (by decide) rfl) ?_)
          refine TW_one rfl (TL_new rfl fun g8 => (TW_on (sub_pick [0] (by decide) rfl) ?_))
          refine TW_one rfl (TL_slv (i := 2) rfl fun _ qa1 => TL_slv (i := 3) rfl fun _ qb1 => TL_storeB (i := 12) (cs' := #[.bool e1, va1, vb1]) rfl rfl rfl rfl (by simp only [List.all_cons, List.all_nil, qa1, qb1]; rfl) rfl (TW_on (sub_pick [0] (by decide) rfl) ?_))
          repeat (first
            | ((first | refine TW_plain rfl rfl ?_ | refine TW_gmet rfl rfl rfl rfl ?_); first | refine TN_val (qp rfl) rfl rfl ?_ | refine TN_val (qlen Und.eq rfl) rfl rfl ?_ | refine TN_val (qfld FldC.fld rfl rfl) rfl rfl ?_ | refine TN_val (rr_nilc rfl) rfl rfl ?_ | refine TN_val (rr_eql rfl rfl (qT (by omega))) rfl rfl ?_ | refine TN_val (rr_eql rfl rfl (qF (by omega))) rfl rfl ?_)
            | refine TW_skip rfl rfl rfl rfl rfl rfl rfl ?_ | refine TW_done ?_)
          refine TW_one rfl (TL_slv (i := 10) rfl fun _ qa2 => TL_slv (i := 11) rfl fun _ qb2 => TL_storeB (i := 13) (cs' := #[.bool e2, va2, vb2]) rfl rfl rfl rfl (by simp only [List.all_cons, List.all_nil, qa2, qb2]; rfl) rfl (TW_on (sub_pick [0] (by decide) rfl) ?_))
          repeat (first
            | ((first | refine TW_plain rfl rfl ?_ | refine TW_gmet rfl rfl rfl rfl ?_); first | refine TN_val (qp rfl) rfl rfl ?_ | refine TN_val (qlen Und.eq rfl) rfl rfl ?_ | refine TN_val (qfld FldC.fld rfl rfl) rfl rfl ?_ | refine TN_val (rr_nilc rfl) rfl rfl ?_ | refine TN_val (rr_eql rfl rfl (qT (by omega))) rfl rfl ?_ | refine TN_val (rr_eql rfl rfl (qF (by omega))) rfl rfl ?_)
            | refine TW_skip rfl rfl rfl rfl rfl rfl rfl ?_ | refine TW_done ?_)
          refine E_pick [4, 5, 6, 7, 8, 9, 2, 3, 10, 11, 1, 12, 13] (by decide) rfl ?_
          exact E_mid (⟨vc2, vr2, vfol2, vl2, vs2, F2⟩, va1, vb1, va2, vb2, g7, g8) hx2 (by repeat' (first | exact True.intro | refine And.intro rfl ?_)) rfl
        · refine TL_new rfl fun g8 => (TW_on (sub_pick [0] (by decide) rfl) ?_)
          refine TW_one rfl (TL_new rfl fun g7 => (TW_on (sub_pick [0] (by decide) rfl) ?_))
          refine TW_one rfl (TL_slv (i := 2) rfl fun _ qa1 => TL_slv (i := 3) rfl fun _ qb1 => TL_storeB (i := 13) (cs' := #[.bool e1, va1, vb1]) rfl rfl rfl rfl (by simp only [List.all_cons, List.all_nil, qa1, qb1]; rfl) rfl (TW_on (sub_pick [0] (by decide) rfl) ?_))
          repeat (first
            | ((first | refine TW_plain rfl rfl ?_ | refine TW_gmet rfl rfl rfl rfl ?_); first | refine TN_val (qp rfl) rfl rfl ?_ | refine TN_val (qlen Und.eq rfl) rfl rfl ?_ | refine TN_val (qfld FldC.fld rfl rfl) rfl rfl ?_ | refine TN_val (rr_nilc rfl) rfl rfl ?_ | refine TN_val (rr_eql rfl rfl (qT (by omega))) rfl rfl ?_ | refine TN_val (rr_eql rfl rfl (qF (by omega))) rfl rfl ?_)
            | refine TW_skip rfl rfl rfl rfl rfl rfl rfl ?_ | refine TW_done ?_)
          refine TW_one rfl (TL_slv (i := 10) rfl fun _ qa2 => TL_slv (i := 11) rfl fun _ qb2 => TL_storeB (i := 12) (cs' := #[.bool e2, va2, vb2]) rfl rfl rfl rfl (by simp only [List.all_cons, List.all_nil, qa2, qb2]; rfl) rfl (TW_on (sub_pick [0] (by decide) rfl) ?_))
          repeat (first
            | ((first | refine TW_plain rfl rfl ?_ | refine TW_gmet rfl rfl rfl rfl ?_); first | refine TN_val (qp rfl) rfl rfl ?_ | refine TN_val (qlen Und.eq rfl) rfl rfl ?_ | refine TN_val (qfld FldC.fld rfl rfl) rfl rfl ?_ | refine TN_val (rr_nilc rfl) rfl rfl ?_ | refine TN_val (rr_eql rfl rfl (qT (by omega))) rfl rfl ?_ | refine TN_val (rr_eql rfl rfl (qF (by omega))) rfl rfl ?_)
            | refine TW_skip rfl rfl rfl rfl rfl rfl rfl ?_ | refine TW_done ?_)
          refine E_pick [4, 5, 6, 7, 8, 9, 2, 3, 10, 11, 1, 13, 12] (by decide) rfl ?_
          exact E_mid (⟨vc2, vr2, vfol2, vl2, vs2, F2⟩, va1, vb1, va2, vb2, g7, g8) hx2 (by repeat' (first | exact True.intro | refine And.intro rfl ?_)) rfl
      · refine TL_new rfl fun g7 => (TW_on (sub_pick [0] (by decide) rfl) ?_)
        refine TW_two rfl rfl ?_ ?_
        · refine TL_callB [2, 3, 4, 5, 6, 7] [0, 1, 8, 9, 10] (by decide) rfl rfl (he2 EntersC.en rfl rfl rfl) (fun w hm hb => hI2 ⟨vc1, vr1, vfol1, vl1, vs1, F1⟩ hx1 w _ (rex_on (hm.pick [2, 3, 4, 5, 6, 7] (by decide) rfl) hkid2) hb) rfl rfl rfl ?_
          rintro ⟨⟨vc2, vr2, vfol2, vl2, vs2, F2⟩, va2, vb2⟩ hx2
          have hx2 : vs2.length = p2.follow.length := hx2
          conv => arg 8; simp only [zA, zB, zC, zD, zE, zF, zG, zH, zI, rowS, ret, id_eq, nodeSp, mkL]
          conv => arg 7; simp only [nodeSp]
          refine TW_on (sub_pick [0] (by decide) rfl) ?_
          refine TW_one rfl (TL_new rfl fun g8 => (TW_on (sub_pick [0] (by decide) rfl) ?_))
          refine TW_one rfl (TL_slv (i := 2) rfl fun _ qa1 => TL_slv (i := 3) rfl fun _ qb1 => TL_storeB (i := 4) (cs' := #[.bool e1, va1, vb1]) rfl rfl rfl rfl (by simp only [List.all_cons, List.all_nil, qa1, qb1]; rfl) rfl (TW_on (sub_pick [0] (by decide) rfl) ?_))
          repeat (first
            | ((first | refine TW_plain rfl rfl ?_ | refine TW_gmet rfl rfl rfl rfl ?_); first | refine TN_val (qp rfl) rfl rfl ?_ | refine TN_val (qlen Und.eq rfl) rfl rfl ?_ | refine TN_val (qfld FldC.fld rfl rfl) rfl rfl ?_ | refine TN_val (rr_nilc rfl) rfl rfl ?_ | refine TN_val (rr_eql rfl rfl (qT (by omega))) rfl rfl ?_ | refine TN_val (rr_eql rfl rfl (qF (by omega))) rfl rfl ?_)
            | refine TW_skip rfl rfl rfl rfl rfl rfl rfl ?_ | refine TW_done ?_)
          refine TW_one rfl (TL_slv (i := 11) rfl fun _ qa2 => TL_slv (i := 12) rfl fun _ qb2 => TL_storeB (i := 13) (cs' := #[.bool e2, va2, vb2]) rfl rfl rfl rfl (by simp only [List.all_cons, List.all_nil, qa2, qb2]; rfl) rfl (TW_on (sub_pick [0] (by decide) rfl) ?_))
          repeat (first
            | ((first | refine TW_plain rfl rfl ?_ | refine TW_gmet rfl rfl rfl rfl ?_); first | refine TN_val (qp rfl) rfl rfl ?_ | refine TN_val (qlen Und.eq rfl) rfl rfl ?_ | refine TN_val (qfld FldC.fld rfl rfl) rfl rfl ?_ | refine TN_val (rr_nilc rfl) rfl rfl ?_ | refine TN_val (rr_eql rfl rfl (qT (by omega))) rfl rfl ?_ | refine TN_val (rr_eql rfl rfl (qF (by omega))) rfl rfl ?_)
            | refine TW_skip rfl rfl rfl rfl rfl rfl rfl ?_ | refine TW_done ?_)
          refine E_pick [5, 6, 7, 8, 9, 10, 2, 3, 11, 12, 1, 4, 13] (by decide) rfl ?_
          exact E_mid (⟨vc2, vr2, vfol2, vl2, vs2, F2⟩, va1, vb1, va2, vb2, g7, g8) hx2 (by repeat' (first | exact True.intro | refine And.intro rfl ?_)) rfl
        · refine TL_new rfl fun g8 => (TW_on (sub_pick [0] (by decide) rfl) ?_)
          refine TW_one rfl (TL_callB [2, 3, 4, 5, 6, 7] [0, 1, 8, 9, 10, 11] (by decide) rfl rfl (he2 EntersC.en rfl rfl rfl) (fun w hm hb => hI2 ⟨vc1, vr1, vfol1, vl1, vs1, F1⟩ hx1 w _ (rex_on (hm.pick [2, 3, 4, 5, 6, 7] (by decide) rfl) hkid2) hb) rfl rfl rfl ?_)
          rintro ⟨⟨vc2, vr2, vfol2, vl2, vs2, F2⟩, va2, vb2⟩ hx2
          have hx2 : vs2.length = p2.follow.length := hx2
          conv => arg 8; simp only [zA, zB, zC, zD, zE, zF, zG, zH, zI, rowS, ret, id_eq, nodeSp, mkL]
          conv => arg 7; simp only [nodeSp]
          refine TW_on (sub_pick [0] (by decide) rfl) ?_
          refine TW_one rfl (TL_slv (i := 2) rfl fun _ qa1 => TL_slv (i := 3) rfl fun _ qb1 => TL_storeB (i := 4) (cs' := #[.bool e1, va1, vb1]) rfl rfl rfl rfl (by simp only [List.all_cons, List.all_nil, qa1, qb1]; rfl) rfl (TW_on (sub_pick [0] (by decide) rfl) ?_))
          repeat (first
            | ((first | refine TW_plain rfl rfl ?_ | refine TW_gmet rfl rfl rfl rfl ?_); first | refine TN_val (qp rfl) rfl rfl ?_ | refine TN_val (qlen Und.eq rfl) rfl rfl ?_ | refine TN_val (qfld FldC.fld rfl rfl) rfl rfl ?_ | refine TN_val (rr_nilc rfl) rfl rfl ?_ | refine TN_val (rr_eql rfl rfl (qT (by omega))) rfl rfl ?_ | refine TN_val (rr_eql rfl rfl (qF (by omega))) rfl rfl ?_)
            | refine TW_skip rfl rfl rfl rfl rfl rfl rfl ?_ | refine TW_done ?_)
          refine TW_one rfl (TL_slv (i := 12) rfl fun _ qa2 => TL_slv (i := 13) rfl fun _ qb2 => TL_storeB (i := 5) (cs' := #[.bool e2, va2, vb2]) rfl rfl rfl rfl (by simp only [List.all_cons, List.all_nil, qa2, qb2]; rfl) rfl (TW_on (sub_pick [0] (by decide) rfl) ?_))
          repeat (first
            | ((first | refine TW_plain rfl rfl ?_ | refine TW_gmet rfl rfl rfl rfl ?_); first | refine TN_val (qp rfl) rfl rfl ?_ | refine TN_val (qlen Und.eq rfl) rfl rfl ?_ | refine TN_val (qfld FldC.fld rfl rfl) rfl rfl ?_ | refine TN_val (rr_nilc rfl) rfl rfl ?_ | refine TN_val (rr_eql rfl rfl (qT (by omega))) rfl rfl ?_ | refine TN_val (rr_eql rfl rfl (qF (by omega))) rfl rfl ?_)
            | refine TW_skip rfl rfl rfl rfl rfl rfl rfl ?_ | refine TW_done ?_)
          refine E_pick [6, 7, 8, 9, 10, 11, 2, 3, 12, 13, 1, 4, 5] (by decide) rfl ?_
          exact E_mid (⟨vc2, vr2, vfol2, vl2, vs2, F2⟩, va1, vb1, va2, vb2, g7, g8) hx2 (by repeat' (first | exact True.intro | refine And.intro rfl ?_)) rfl
      · refine TL_new rfl fun g8 => (TW_on (sub_pick [0] (by decide) rfl) ?_)
        refine TW_two rfl rfl ?_ ?_
        · refine TL_callB [2, 3, 4, 5, 6, 7] [0, 1, 8, 9, 10] (by decide) rfl rfl (he2 EntersC.en rfl rfl rfl) (fun w hm hb => hI2 ⟨vc1, vr1, vfol1, vl1, vs1, F1⟩ hx1 w _ (rex_on (hm.pick [2, 3, 4, 5, 6, 7] (by decide) rfl) hkid2) hb) rfl rfl rfl ?_
          rintro ⟨⟨vc2, vr2, vfol2, vl2, vs2, F2⟩, va2, vb2⟩ hx2
          have hx2 : vs2.length = p2.follow.length := hx2
          conv => arg 8; simp only [zA, zB, zC, zD, zE, zF, zG, zH, zI, rowS, ret, id_eq, nodeSp, mkL]
          conv => arg 7; simp only [nodeSp]
          refine TW_on (sub_pick [0] (by decide) rfl) ?_
          refine TW_one rfl (TL_new rfl fun g7 => (TW_on (sub_pick [0] (by decide) rfl) ?_))
          refine TW_one rfl (TL_slv (i := 2) rfl fun _ qa1 => TL_slv (i := 3) rfl fun _ qb1 => TL_storeB (i := 13) (cs' := #[.bool e1, va1, vb1]) rfl rfl rfl rfl (by simp only [List.all_cons, List.all_nil, qa1, qb1]; rfl) rfl (TW_on (sub_pick [0] (by decide) rfl) ?_))
          repeat (first
            | ((first | refine TW_plain rfl rfl ?_ | refine TW_gmet rfl rfl rfl rfl ?_); first | refine TN_val (qp rfl) rfl rfl ?_ | refine TN_val (qlen Und.eq rfl) rfl rfl ?_ | refine TN_val (qfld FldC.fld rfl rfl) rfl rfl ?_ | refine TN_val (rr_nilc rfl) rfl rfl ?_ | refine TN_val (rr_eql rfl rfl (qT (by omega))) rfl rfl ?_ | refine TN_val (rr_eql rfl rfl (qF (by omega))) rfl rfl ?_)
            | refine TW_skip rfl rfl rfl rfl rfl rfl rfl ?_ | refine TW_done ?_)
          refine TW_one rfl (TL_slv (i := 11) rfl fun _ qa2 => TL_slv (i := 12) rfl fun _ qb2 => TL_storeB (i := 4) (cs' := #[.bool e2, va2, vb2]) rfl rfl rfl rfl (by simp only [List.all_cons, List.all_nil, qa2, qb2]; rfl) rfl (TW_on (sub_pick [0] (by decide) rfl) ?_))
          repeat (first
            | ((first | refine TW_plain rfl rfl ?_ | refine TW_gmet rfl rfl rfl rfl ?_); first | refine TN_val (qp rfl) rfl rfl ?_ | refine TN_val (qlen Und.eq rfl) rfl rfl ?_ | refine TN_val (qfld FldC.fld rfl rfl) rfl rfl ?_ | refine TN_val (rr_nilc rfl) rfl rfl ?_ | refine TN_val (rr_eql rfl rfl (qT (by omega))) rfl rfl ?_ | refine TN_val (rr_eql rfl rfl (qF (by omega))) rfl rfl ?_)
            | refine TW_skip rfl rfl rfl rfl rfl rfl rfl ?_ | refine TW_done ?_)
          refine E_pick [5, 6, 7, 8, 9, 10, 2, 3, 11, 12, 1, 13, 4] (by decide) rfl ?_
          exact E_mid (⟨vc2, vr2, vfol2, vl2, vs2, F2⟩, va1, vb1, va2, vb2, g7, g8) hx2 (by repeat' (first | exact True.intro | refine And.intro rfl ?_)) rfl
        · refine TL_new rfl fun g7 => (TW_on (sub_pick [0] (by decide) rfl) ?_)
          refine TW_one rfl (TL_callB [2, 3, 4, 5, 6, 7] [0, 1, 8, 9, 10, 11] (by decide) rfl rfl (he2 EntersC.en rfl rfl rfl) (fun w hm hb => hI2 ⟨vc1, vr1, vfol1, vl1, vs1, F1⟩ hx1 w _ (rex_on (hm.pick [2, 3, 4, 5, 6, 7] (by decide) rfl) hkid2) hb) rfl rfl rfl ?_)
          rintro ⟨⟨vc2, vr2, vfol2, vl2, vs2, F2⟩, va2, vb2⟩ hx2
          have hx2 : vs2.length = p2.follow.length := hx2
          conv => arg 8; simp only [zA, zB, zC, zD, zE, zF, zG, zH, zI, rowS, ret, id_eq, nodeSp, mkL]
          conv => arg 7; simp only [nodeSp]
          refine TW_on (sub_pick [0] (by decide) rfl) ?_
          refine TW_one rfl (TL_slv (i := 2) rfl fun _ qa1 => TL_slv (i := 3) rfl fun _ qb1 => TL_storeB (i := 5) (cs' := #[.bool e1, va1, vb1]) rfl rfl rfl rfl (by simp only [List.all_cons, List.all_nil, qa1, qb1]; rfl) rfl (TW_on (sub_pick [0] (by decide) rfl) ?_))
          repeat (first
            | ((first | refine TW_plain rfl rfl ?_ | refine TW_gmet rfl rfl rfl rfl ?_); first | refine TN_val (qp rfl) rfl rfl ?_ | refine TN_val (qlen Und.eq rfl) rfl rfl ?_ | refine TN_val (qfld FldC.fld rfl rfl) rfl rfl ?_ | refine TN_val (rr_nilc rfl) rfl rfl ?_ | refine TN_val (rr_eql rfl rfl (qT (by omega))) rfl rfl ?_ | refine TN_val (rr_eql rfl rfl (qF (by omega))) rfl rfl ?_)
            | refine TW_skip rfl rfl rfl rfl rfl rfl rfl ?_ | refine TW_done ?_)
          refine TW_one rfl (TL_slv (i := 12) rfl fun _ qa2 => TL_slv (i := 13) rfl fun _ qb2 => TL_storeB (i := 4) (cs' := #[.bool e2, va2, vb2]) rfl rfl rfl rfl (by simp only [List.all_cons, List.all_nil, qa2, qb2]; rfl) rfl (TW_on (sub_pick [0] (by decide) rfl) ?_))
          repeat (first
            | ((first | refine TW_plain rfl rfl ?_ | refine TW_gmet rfl rfl rfl rfl ?_); first | refine TN_val (qp rfl) rfl rfl ?_ | refine TN_val (qlen Und.eq rfl) rfl rfl ?_ | refine TN_val (qfld FldC.fld rfl rfl) rfl rfl ?_ | refine TN_val (rr_nilc rfl) rfl rfl ?_ | refine TN_val (rr_eql rfl rfl (qT (by omega))) rfl rfl ?_ | refine TN_val (rr_eql rfl rfl (qF (by omega))) rfl rfl ?_)
            | refine TW_skip rfl rfl rfl rfl rfl rfl rfl ?_ | refine TW_done ?_)
          refine E_pick [6, 7, 8, 9, 10, 11, 2, 3, 12, 13, 1, 5, 4] (by decide) rfl ?_
          exact E_mid (⟨vc2, vr2, vfol2, vl2, vs2, F2⟩, va1, vb1, va2, vb2, g7, g8) hx2 (by repeat' (first | exact True.intro | refine And.intro rfl ?_)) rfl
    · refine TL_new rfl fun g7 => (TW_on (sub_pick [6] (by decide) rfl) ?_)
      refine TW_two rfl rfl ?_ ?_
      · refine TL_callB [0, 1, 2, 3, 4, 5] [6, 7, 8] (by decide) rfl rfl (he2 EntersC.en rfl rfl rfl) (fun w hm hb => hI1 w _ (rex_on (hm.pick [0, 1, 2, 3, 4, 5] (by decide) rfl) hkid1) hb) rfl rfl rfl ?_
        rintro ⟨⟨vc1, vr1, vfol1, vl1, vs1, F1⟩, va1, vb1⟩ hx1
        have hx1 : vs1.length = p1.follow.length := hx1
        conv => arg 8; simp only [zA, zB, zC, zD, zE, zF, zG, zH, zI, rowS, ret, id_eq, nodeSp, mkL]
        conv => arg 7; simp only [nodeSp]
        refine TW_on (sub_pick [0] (by decide) rfl) ?_
        refine TW_two rfl rfl ?_ ?_
        · refine TL_callB [3, 4, 5, 6, 7, 8] [0, 1, 2, 9, 10] (by decide) rfl rfl (he2 EntersC.en rfl rfl rfl) (fun w hm hb => hI2 ⟨vc1, vr1, vfol1, vl1, vs1, F1⟩ hx1 w _ (rex_on (hm.pick [3, 4, 5, 6, 7, 8] (by decide) rfl) hkid2) hb) rfl rfl rfl ?_
          rintro ⟨⟨vc2, vr2, vfol2, vl2, vs2, F2⟩, va2, vb2⟩ hx2
          have hx2 : vs2.length = p2.follow.length := hx2
          conv => arg 8; simp only [zA, zB, zC, zD, zE, zF, zG, zH, zI, rowS, ret, id_eq, nodeSp, mkL]
          conv => arg 7; simp only [nodeSp]
          refine TW_on (sub_pick [0] (by decide) rfl) ?_
          refine TW_one rfl (TL_new rfl fun g8 => (TW_on (sub_pick [0] (by decide) rfl) ?_))
          refine TW_one rfl (TL_slv (i := 3) rfl fun _ qa1 => TL_slv (i := 4) rfl fun _ qb1 => TL_storeB (i := 2) (cs' := #[.bool e1, va1, vb1]) rfl rfl rfl rfl (by simp only [List.all_cons, List.all_nil, qa1, qb1]; rfl) rfl (TW_on (sub_pick [0] (by decide) rfl) ?_))
          repeat (first
            | ((first | refine TW_plain rfl rfl ?_ | refine TW_gmet rfl rfl rfl rfl ?_); first | refine TN_val (qp rfl) rfl rfl ?_ | refine TN_val (qlen Und.eq rfl) rfl rfl ?_ | refine TN_val (qfld FldC.fld rfl rfl) rfl rfl ?_ | refine TN_val (rr_nilc rfl) rfl rfl ?_ | refine TN_val (rr_eql rfl rfl (qT (by omega))) rfl rfl ?_ | refine TN_val (rr_eql rfl rfl (qF (by omega))) rfl rfl ?_)
            | refine TW_skip rfl rfl rfl rfl rfl rfl rfl ?_ | refine TW_done ?_)
          refine TW_one rfl (TL_slv (i := 11) rfl fun _ qa2 => TL_slv (i := 12) rfl fun _ qb2 => TL_storeB (i := 13) (cs' := #[.bool e2, va2, vb2]) rfl rfl rfl rfl (by simp only [List.all_cons, List.all_nil, qa2, qb2]; rfl) rfl (TW_on (sub_pick [0] (by decide) rfl) ?_))
          repeat (first
            | ((first | refine TW_plain rfl rfl ?_ | refine TW_gmet rfl rfl rfl rfl ?_); first | refine TN_val (qp rfl) rfl rfl ?_ | refine TN_val (qlen Und.eq rfl) rfl rfl ?_ | refine TN_val (qfld FldC.fld rfl rfl) rfl rfl ?_ | refine TN_val (rr_nilc rfl) rfl rfl ?_ | refine TN_val (rr_eql rfl rfl (qT (by omega))) rfl rfl ?_ | refine TN_val (rr_eql rfl rfl (qF (by omega))) rfl rfl ?_)
            | refine TW_skip rfl rfl rfl rfl rfl rfl rfl ?_ | refine TW_done ?_)
          refine E_pick [5, 6, 7, 8, 9, 10, 3, 4, 11, 12, 1, 2, 13] (by decide) rfl ?_
          exact E_mid (⟨vc2, vr2, vfol2, vl2, vs2, F2⟩, va1, vb1, va2, vb2, g7, g8) hx2 (by repeat' (first | exact True.intro | refine And.intro rfl ?_)) rfl
        · refine TL_new rfl fun g8 => (TW_on (sub_pick [0] (by decide) rfl) ?_)
          refine TW_one rfl (TL_callB [3, 4, 5, 6, 7, 8] [0, 1, 2, 9, 10, 11] (by decide) rfl rfl (he2 EntersC.en rfl rfl rfl) (fun w hm hb => hI2 ⟨vc1, vr1, vfol1, vl1, vs1, F1⟩ hx1 w _ (rex_on (hm.pick [3, 4, 5, 6, 7, 8] (by decide) rfl) hkid2) hb) rfl rfl rfl ?_)
          rintro ⟨⟨vc2, vr2, vfol2, vl2, vs2, F2⟩, va2, vb2⟩ hx2
          have hx2 : vs2.length = p2.follow.length := hx2
          conv => arg 8; simp only [zA, zB, zC, zD, zE, zF, zG, zH, zI, rowS, ret, id_eq, nodeSp, mkL]
          conv => arg 7; simp only [nodeSp]
          refine TW_on (sub_pick [0] (by decide) rfl) ?_
          refine TW_one rfl (TL_slv (i := 3) rfl fun _ qa1 => TL_slv (i := 4) rfl fun _ qb1 => TL_storeB (i := 2) (cs' := #[.bool e1, va1, vb1]) rfl rfl rfl rfl (by simp only [List.all_cons, List.all_nil, qa1, qb1]; rfl) rfl (TW_on (sub_pick [0] (by decide) rfl) ?_))
          repeat (first
            | ((first | refine TW_plain rfl rfl ?_ | refine TW_gmet rfl rfl rfl rfl ?_); first | refine TN_val (qp rfl) rfl rfl ?_ | refine TN_val (qlen Und.eq rfl) rfl rfl ?_ | refine TN_val (qfld FldC.fld rfl rfl) rfl rfl ?_ | refine TN_val (rr_nilc rfl) rfl rfl ?_ | refine TN_val (rr_eql rfl rfl (qT (by omega))) rfl rfl ?_ | refine TN_val (rr_eql rfl rfl (qF (by omega))) rfl rfl ?_)
            | refine TW_skip rfl rfl rfl rfl rfl rfl rfl ?_ | refine TW_done ?_)
          refine TW_one rfl (TL_slv (i := 12) rfl fun _ qa2 => TL_slv (i := 13) rfl fun _ qb2 => TL_storeB (i := 5) (cs' := #[.bool e2, va2, vb2]) rfl rfl rfl rfl (by simp only [List.all_cons, List.all_nil, qa2, qb2]; rfl) rfl (TW_on (sub_pick [0] (by decide) rfl) ?_))
          repeat (first
            | ((first | refine TW_plain rfl rfl ?_ | refine TW_gmet rfl rfl rfl rfl ?_); first | refine TN_val (qp rfl) rfl rfl ?_ | refine TN_val (qlen Und.eq rfl) rfl rfl ?_ | refine TN_val (qfld FldC.fld rfl rfl) rfl rfl ?_ | refine TN_val (rr_nilc rfl) rfl rfl ?_ | refine TN_val (rr_eql rfl rfl (qT (by omega))) rfl rfl ?_ | refine TN_val (rr_eql rfl rfl (qF (by omega))) rfl rfl ?_)
            | refine TW_skip rfl rfl rfl rfl rfl rfl rfl ?_ | refine TW_done ?_)
          refine E_pick [6, 7, 8, 9, 10, 11, 3, 4, 12, 13, 1, 2, 5] (by decide) rfl ?_
          exact E_mid (⟨vc2, vr2, vfol2, vl2, vs2, F2⟩, va1, vb1, va2, vb2, g7, g8) hx2 (by repeat' (first | exact True.intro | refine And.intro rfl ?_)) rfl
      · refine TL_new rfl fun g8 => (TW_on (sub_pick [6] (by decide) rfl) ?_)
        refine TW_one rfl (TL_callB [0, 1, 2, 3, 4, 5] [6, 7, 8, 9] (by decide) rfl rfl (he2 EntersC.en rfl rfl rfl) (fun w hm hb => hI1 w _ (rex_on (hm.pick [0, 1, 2, 3, 4, 5] (by decide) rfl) hkid1) hb) rfl rfl rfl ?_)
        rintro ⟨⟨vc1, vr1, vfol1, vl1, vs1, F1⟩, va1, vb1⟩ hx1
        have hx1 : vs1.length = p1.follow.length := hx1
        conv => arg 8; simp only [zA, zB, zC, zD, zE, zF, zG, zH, zI, rowS, ret, id_eq, nodeSp, mkL]
        conv => arg 7; simp only [nodeSp]
        refine TW_on (sub_pick [0] (by decide) rfl) ?_
        refine TW_one rfl (TL_callB [4, 5, 6, 7, 8, 9] [0, 1, 2, 3, 10, 11] (by decide) rfl rfl (he2 EntersC.en rfl rfl rfl) (fun w hm hb => hI2 ⟨vc1, vr1, vfol1, vl1, vs1, F1⟩ hx1 w _ (rex_on (hm.pick [4, 5, 6, 7, 8, 9] (by decide) rfl) hkid2) hb) rfl rfl rfl ?_)
        rintro ⟨⟨vc2, vr2, vfol2, vl2, vs2, F2⟩, va2, vb2⟩ hx2
        have hx2 : vs2.length = p2.follow.length := hx2
        conv => arg 8; simp only [zA, zB, zC, zD, zE, zF, zG, zH, zI, rowS, ret, id_eq, nodeSp, mkL]
        conv => arg 7; simp only [nodeSp]
        refine TW_on (sub_pick [0] (by decide) rfl) ?_
        refine TW_one rfl (TL_slv (i := 4) rfl fun _ qa1 => TL_slv (i := 5) rfl fun _ qb1 => TL_storeB (i := 2) (cs' := #[.bool e1, va1, vb1]) rfl rfl rfl rfl (by simp only [List.all_cons, List.all_nil, qa1, qb1]; rfl) rfl (TW_on (sub_pick [0] (by decide) rfl) ?_))
        repeat (first
          | ((first | refine TW_plain rfl rfl ?_ | refine TW_gmet rfl rfl rfl rfl ?_); first | refine TN_val (qp rfl) rfl rfl ?_ | refine TN_val (qlen Und.eq rfl) rfl rfl ?_ | refine TN_val (qfld FldC.fld rfl rfl) rfl rfl ?_ | refine TN_val (rr_nilc rfl) rfl rfl ?_ | refine TN_val (rr_eql rfl rfl (qT (by omega))) rfl rfl ?_ | refine TN_val (rr_eql rfl rfl (qF (by omega))) rfl rfl ?_)
          | refine TW_skip rfl rfl rfl rfl rfl rfl rfl ?_ | refine TW_done ?_)
        refine TW_one rfl (TL_slv (i := 12) rfl fun _ qa2 => TL_slv (i := 13) rfl fun _ qb2 => TL_storeB (i := 3) (cs' := #[.bool e2, va2, vb2]) rfl rfl rfl rfl (by simp only [List.all_cons, List.all_nil, qa2, qb2]; rfl) rfl (TW_on (sub_pick [0] (by decide) rfl) ?_))
        repeat (first
          | ((first | refine TW_plain rfl rfl ?_ | refine TW_gmet rfl rfl rfl rfl ?_); first | refine TN_val (qp rfl) rfl rfl ?_ | refine TN_val (qlen Und.eq rfl) rfl rfl ?_ | refine TN_val (qfld FldC.fld rfl rfl) rfl rfl ?_ | refine TN_val (rr_nilc rfl) rfl rfl ?_ | refine TN_val (rr_eql rfl rfl (qT (by omega))) rfl rfl ?_ | refine TN_val (rr_eql rfl rfl (qF (by omega))) rfl rfl ?_)
          | refine TW_skip rfl rfl rfl rfl rfl rfl rfl ?_ | refine TW_done ?_)
        refine E_pick [6, 7, 8, 9, 10, 11, 4, 5, 12, 13, 1, 2, 3] (by decide) rfl ?_
        exact E_mid (⟨vc2, vr2, vfol2, vl2, vs2, F2⟩, va1, vb1, va2, vb2, g7, g8) hx2 (by repeat' (first | exact True.intro | refine And.intro rfl ?_)) rfl
    · refine TL_new rfl fun g8 => (TW_on (sub_pick [6] (by decide) rfl) ?_)
      refine TW_two rfl rfl ?_ ?_
      · refine TL_callB [0, 1, 2, 3, 4, 5] [6, 7, 8] (by decide) rfl rfl (he2 EntersC.en rfl rfl rfl) (fun w hm hb => hI1 w _ (rex_on (hm.pick [0, 1, 2, 3, 4, 5] (by decide) rfl) hkid1) hb) rfl rfl rfl ?_
        rintro ⟨⟨vc1, vr1, vfol1, vl1, vs1, F1⟩, va1, vb1⟩ hx1
        have hx1 : vs1.length = p1.follow.length := hx1
        conv => arg 8; simp only [zA, zB, zC, zD, zE, zF, zG, zH, zI, rowS, ret, id_eq, nodeSp, mkL]
        conv => arg 7; simp only [nodeSp]
        refine TW_on (sub_pick [0] (by decide) rfl) ?_
        refine TW_two rfl rfl ?_ ?_
        · refine TL_callB [3, 4, 5, 6, 7, 8] [0, 1, 2, 9, 10] (by decide) rfl rfl (he2 EntersC.en rfl rfl rfl) (fun w hm hb => hI2 ⟨vc1, vr1, vfol1, vl1, vs1, F1⟩ hx1 w _ (rex_on (hm.pick [3, 4, 5, 6, 7, 8] (by decide) rfl) hkid2) hb) rfl rfl rfl ?_
          rintro ⟨⟨vc2, vr2, vfol2, vl2, vs2, F2⟩, va2, vb2⟩ hx2
          have hx2 : vs2.length = p2.follow.length := hx2
          conv => arg 8; simp only [zA, zB, zC, zD, zE, zF, zG, zH, zI, rowS, ret, id_eq, nodeSp, mkL]
          conv => arg 7; simp only [nodeSp]
          refine TW_on (sub_pick [0] (by decide) rfl) ?_
          refine TW_one rfl (TL_new rfl fun g7 => (TW_on (sub_pick [0] (by decide) rfl) ?_))
          refine TW_one rfl (TL_slv (i := 3) rfl fun _ qa1 => TL_slv (i := 4) rfl fun _ qb1 => TL_storeB (i := 13) (cs' := #[.bool e1, va1, vb1]) rfl rfl rfl rfl (by simp only [List.all_cons, List.all_nil, qa1, qb1]; rfl) rfl (TW_on (sub_pick [0] (by decide) rfl) ?_))
          repeat (first
            | ((first | refine TW_plain rfl rfl ?_ | refine TW_gmet rfl rfl rfl rfl ?_); first | refine TN_val (qp rfl) rfl rfl ?_ | refine TN_val (qlen Und.eq rfl) rfl rfl ?_ | refine TN_val (qfld FldC.fld rfl rfl) rfl rfl ?_ | refine TN_val (rr_nilc rfl) rfl rfl ?_ | refine TN_val (rr_eql rfl rfl (qT (by omega))) rfl rfl ?_ | refine TN_val (rr_eql rfl rfl (qF (by omega))) rfl rfl ?_)
            | refine TW_skip rfl rfl rfl rfl rfl rfl rfl ?_ | refine TW_done ?_)
          refine TW_one rfl (TL_slv (i := 11) rfl fun _ qa2 => TL_slv (i := 12) rfl fun _ qb2 => TL_storeB (i := 2) (cs' := #[.bool e2, va2, vb2]) rfl rfl rfl rfl (by simp only [List.all_cons, List.all_nil, qa2, qb2]; rfl) rfl (TW_on (sub_pick [0] (by decide) rfl) ?_))
          repeat (first
            | ((first | refine TW_plain rfl rfl ?_ | refine TW_gmet rfl rfl rfl rfl ?_); first | refine TN_val (qp rfl) rfl rfl ?_ | refine TN_val (qlen Und.eq rfl) rfl rfl ?_ | refine TN_val (qfld FldC.fld rfl rfl) rfl rfl ?_ | refine TN_val (rr_nilc rfl) rfl rfl ?_ | refine TN_val (rr_eql rfl rfl (qT (by omega))) rfl rfl ?_ | refine TN_val (rr_eql rfl rfl (qF (by omega))) rfl rfl ?_)
            | refine TW_skip rfl rfl rfl rfl rfl rfl rfl ?_ | refine TW_done ?_)
          refine E_pick [5, 6, 7, 8, 9, 10, 3, 4, 11, 12, 1, 13, 2] (by decide) rfl ?_
          exact E_mid (⟨vc2, vr2, vfol2, vl2, vs2, F2⟩, va1, vb1, va2, vb2, g7, g8) hx2 (by repeat' (first | exact True.intro | refine And.intro rfl ?_)) rfl
        · refine TL_new rfl fun g7 => (TW_on (sub_pick [0] (by decide) rfl) ?_)
          refine TW_one rfl (TL_callB [3, 4, 5, 6, 7, 8] [0, 1, 2, 9, 10, 11] (by decide) rfl rfl (he2 EntersC.en rfl rfl rfl) (fun w hm hb => hI2 ⟨vc1, vr1, vfol1, vl1, vs1, F1⟩ hx1 w _ (rex_on (hm.pick [3, 4, 5, 6, 7, 8] (by decide) rfl) hkid2) hb) rfl rfl rfl ?_)
          rintro ⟨⟨vc2, vr2, vfol2, vl2, vs2, F2⟩, va2, vb2⟩ hx2
          have hx2 : vs2.length = p2.follow.length := hx2
          conv => arg 8; simp only [zA, zB, zC, zD, zE, zF, zG, zH, zI, rowS, ret, id_eq, nodeSp, mkL]
          conv => arg 7; simp only [nodeSp]
          refine TW_on (sub_pick [0] (by decide) rfl) ?_
          refine TW_one rfl (TL_slv (i := 3) rfl fun _ qa1 => TL_slv (i := 4) rfl fun _ qb1 => TL_storeB (i := 5) (cs' := #[.bool e1, va1, vb1]) rfl rfl rfl rfl (by simp only [List.all_cons, List.all_nil, qa1, qb1]; rfl) rfl (TW_on (sub_pick [0] (by decide) rfl) ?_))
          repeat (first
            | ((first | refine TW_plain rfl rfl ?_ | refine TW_gmet rfl rfl rfl rfl ?_); first | refine TN_val (qp rfl) rfl rfl ?_ | refine TN_val (qlen Und.eq rfl) rfl rfl ?_ | refine TN_val (qfld FldC.fld rfl rfl) rfl rfl ?_ | refine TN_val (rr_nilc rfl) rfl rfl ?_ | refine TN_val (rr_eql rfl rfl (qT (by omega))) rfl rfl ?_ | refine TN_val (rr_eql rfl rfl (qF (by omega))) rfl rfl ?_)
            | refine TW_skip rfl rfl rfl rfl rfl rfl rfl ?_ | refine TW_done ?_)
          refine TW_one rfl (TL_slv (i := 12) rfl fun _ qa2 => TL_slv (i := 13) rfl fun _ qb2 => TL_storeB (i := 2) (cs' := #[.bool e2, va2, vb2]) rfl rfl rfl rfl (by simp only [List.all_cons, List.all_nil, qa2, qb2]; rfl) rfl (TW_on (sub_pick [0] (by decide) rfl) ?_))
          repeat (first
            | ((first | refine TW_plain rfl rfl ?_ | refine TW_gmet rfl rfl rfl rfl ?_); first | refine TN_val (qp rfl) rfl rfl ?_ | refine TN_val (qlen Und.eq rfl) rfl rfl ?_ | refine TN_val (qfld FldC.fld rfl rfl) rfl rfl ?_ | refine TN_val (rr_nilc rfl) rfl rfl ?_ | refine TN_val (rr_eql rfl rfl (qT (by omega))) rfl rfl ?_ | refine TN_val (rr_eql rfl rfl (qF (by omega))) rfl rfl ?_)
            | refine TW_skip rfl rfl rfl rfl rfl rfl rfl ?_ | refine TW_done ?_)
          refine E_pick [6, 7, 8, 9, 10, 11, 3, 4, 12, 13, 1, 5, 2] (by decide) rfl ?_
          exact E_mid (⟨vc2, vr2, vfol2, vl2, vs2, F2⟩, va1, vb1, va2, vb2, g7, g8) hx2 (by repeat' (first | exact True.intro | refine And.intro rfl ?_)) rfl
      · refine TL_new rfl fun g7 => (TW_on (sub_pick [6] (by decide) rfl) ?_)
        refine TW_one rfl (TL_callB [0, 1, 2, 3, 4, 5] [6, 7, 8, 9] (by decide) rfl rfl (he2 EntersC.en rfl rfl rfl) (fun w hm hb => hI1 w _ (rex_on (hm.pick [0, 1, 2, 3, 4, 5] (by decide) rfl) hkid1) hb) rfl rfl rfl ?_)
        rintro ⟨⟨vc1, vr1, vfol1, vl1, vs1, F1⟩, va1, vb1⟩ hx1
        have hx1 : vs1.length = p1.follow.length := hx1
        conv => arg 8; simp only [zA, zB, zC, zD, zE, zF, zG, zH, zI, rowS, ret, id_eq, nodeSp, mkL]
        conv => arg 7; simp only [nodeSp]
        refine TW_on (sub_pick [0] (by decide) rfl) ?_
        refine TW_one rfl (TL_callB [4, 5, 6, 7, 8, 9] [0, 1, 2, 3, 10, 11] (by decide) rfl rfl (he2 EntersC.en rfl rfl rfl) (fun w hm hb => hI2 ⟨vc1, vr1, vfol1, vl1, vs1, F1⟩ hx1 w _ (rex_on (hm.pick [4, 5, 6, 7, 8, 9] (by decide) rfl) hkid2) hb) rfl rfl rfl ?_)
        rintro ⟨⟨vc2, vr2, vfol2, vl2, vs2, F2⟩, va2, vb2⟩ hx2
        have hx2 : vs2.length = p2.follow.length := hx2
        conv => arg 8; simp only [zA, zB, zC, zD, zE, zF, zG, zH, zI, rowS, ret, id_eq, nodeSp, mkL]
        conv => arg 7; simp only [nodeSp]
        refine TW_on (sub_pick [0] (by decide) rfl) ?_
        refine TW_one rfl (TL_slv (i := 4) rfl fun _ qa1 => TL_slv (i := 5) rfl fun _ qb1 => TL_storeB (i := 3) (cs' := #[.bool e1, va1, vb1]) rfl rfl rfl rfl (by simp only [List.all_cons, List.all_nil, qa1, qb1]; rfl) rfl (TW_on (sub_pick [0] (by decide) rfl) ?_))
        repeat (first
          | ((first | refine TW_plain rfl rfl ?_ | refine TW_gmet rfl rfl rfl rfl ?_); first | refine TN_val (qp rfl) rfl rfl ?_ | refine TN_val (qlen Und.eq rfl) rfl rfl ?_ | refine TN_val (qfld FldC.fld rfl rfl) rfl rfl ?_ | refine TN_val (rr_nilc rfl) rfl rfl ?_ | refine TN_val (rr_eql rfl rfl (qT (by omega))) rfl rfl ?_ | refine TN_val (rr_eql rfl rfl (qF (by omega))) rfl rfl ?_)
          | refine TW_skip rfl rfl rfl rfl rfl rfl rfl ?_ | refine TW_done ?_)
        refine TW_one rfl (TL_slv (i := 12) rfl fun _ qa2 => TL_slv (i := 13) rfl fun _ qb2 => TL_storeB (i := 2) (cs' := #[.bool e2, va2, vb2]) rfl rfl rfl rfl (by simp only [List.all_cons, List.all_nil, qa2, qb2]; rfl) rfl (TW_on (sub_pick [0] (by decide) rfl) ?_))
        repeat (first
          | ((first | refine TW_plain rfl rfl ?_ | refine TW_gmet rfl rfl rfl rfl ?_); first | refine TN_val (qp rfl) rfl rfl ?_ | refine TN_val (qlen Und.eq rfl) rfl rfl ?_ | refine TN_val (qfld FldC.fld rfl rfl) rfl rfl ?_ | refine TN_val (rr_nilc rfl) rfl rfl ?_ | refine TN_val (rr_eql rfl rfl (qT (by omega))) rfl rfl ?_ | refine TN_val (rr_eql rfl rfl (qF (by omega))) rfl rfl ?_)
          | refine TW_skip rfl rfl rfl rfl rfl rfl rfl ?_ | refine TW_done ?_)
        refine E_pick [6, 7, 8, 9, 10, 11, 4, 5, 12, 13, 1, 3, 2] (by decide) rfl ?_
        exact E_mid (⟨vc2, vr2, vfol2, vl2, vs2, F2⟩, va1, vb1, va2, vb2, g7, g8) hx2 (by repeat' (first | exact True.intro | refine And.intro rfl ?_)) rfl
  clear hI1 hI2 hat1 hat2
  rintro ⟨⟨vc, vr, vfol, vl, vs, F⟩, va1, vb1, va2, vb2, g7, g8⟩ hx2
  have hx2 : vs.length = p2.follow.length := hx2
  dsimp only
  conv => arg 7; simp only [zA, zB, zC, zD, zE, zF, zG, zH, zI, rowS, ret, id_eq, mkL]
  have hl1 := ris_len hp4
  have hl2 := ris_len hp5
  have hl3 := ris_len kp4
  have hl4 := ris_len kp5
  cases e1 with
  | true =>
    (repeat refine T_seq ?_)
    refine T_ord ([blkO g7 #[.bool true, va1, vb1] 49, blkO g8 #[.bool e2, va2, vb2] 49]) (.calm 0 (.calm 1 (.calm 2 (.calm 3 (.calm 4 (.calm 5 (.calm 6 (.calm 7 (.calm 8 (.calm 9 (.calm 11 (.calm 12 (.calm 13 (.calm 14 (.one 10 (.one 15 (.calm 16 (.one 17 (.done))))))))))))))))))) (sub_pick [11, 12] (by decide) rfl) (by kernel_rfl) (by kernel_rfl) (by intro c a d v w h; cases d <;> exact h) ?_
    repeat (first
      | ((first | refine TW_plain rfl rfl ?_ | refine TW_gmet rfl rfl rfl rfl ?_); first | refine TN_val (qp rfl) rfl rfl ?_ | refine TN_val (rr_load1 TyC.ty rfl (at_blk (i := 0) rfl rfl)) rfl rfl ?_ | refine TN_val (rr_load1 TyC.ty rfl (at_blk (i := 1) rfl rfl)) rfl rfl ?_ | refine TN_val (qlen Und.eq rfl) rfl rfl ?_ | refine TN_val (qfld FldC.fld rfl rfl) rfl rfl ?_ | refine TN_val (rr_nilc rfl) rfl rfl ?_ | refine TN_val (rr_eql rfl rfl (qT (by omega))) rfl rfl ?_ | refine TN_val (rr_eql rfl rfl (qF (by omega))) rfl rfl ?_)
      | refine TW_skip rfl rfl rfl rfl rfl rfl rfl ?_ | refine TW_done ?_)
    refine TW_one rfl (TL_call (he2 EntersC.en rfl rfl rfl) (fun w' hm => union_calls va1 va2 first1 first2 w' (Sl.of_own (hm.get (i := 6) rfl)) (Sl.of_own (hm.get (i := 8) rfl)) (by omega) (by omega)) rfl rfl rfl ?_)
    intro vu _
    conv => arg 8; simp only [zA, zB, zC, zD, zE, zF, zG, zH, zI, rowS, ret, id_eq, intRS]
    refine TW_on (sub_pick [11, 12] (by decide) rfl) ?_
    repeat (first
      | ((first | refine TW_plain rfl rfl ?_ | refine TW_gmet rfl rfl rfl rfl ?_); first | refine TN_val (qp rfl) rfl rfl ?_ | refine TN_val (qlen Und.eq rfl) rfl rfl ?_ | refine TN_val (qfld FldC.fld rfl rfl) rfl rfl ?_ | refine TN_val (rr_nilc rfl) rfl rfl ?_ | refine TN_val (rr_eql rfl rfl (qT (by omega))) rfl rfl ?_ | refine TN_val (rr_eql rfl rfl (qF (by omega))) rfl rfl ?_)
      | refine TW_skip rfl rfl rfl rfl rfl rfl rfl ?_ | refine TW_done ?_)
    refine TW_one rfl (TL_call (he2 EntersC.en rfl rfl rfl) (fun w' hm => union_calls vb1 vb2 last1 last2 w' (Sl.of_own (hm.get (i := 7) rfl)) (Sl.of_own (hm.get (i := 9) rfl)) (by omega) (by omega)) rfl rfl rfl ?_)
    intro vu2 _
    conv => arg 8; simp only [zA, zB, zC, zD, zE, zF, zG, zH, zI, rowS, ret, id_eq, intRS]
    refine TL_rowv (i := 13) rfl fun bu cu hu _ _ => ?_
    refine TL_rowv (i := 14) rfl fun bu2 cu2 hu2 _ _ => ?_
    subst hu hu2
    refine TW_on (sub_pick [11, 12] (by decide) rfl) ?_
    repeat (first
      | ((first | refine TW_plain rfl rfl ?_ | refine TW_gmet rfl rfl rfl rfl ?_); first | refine TN_val (qp rfl) rfl rfl ?_ | refine TN_val (rr_build rfl (build_shpA _ _ _ _ _ _ _)) rfl rfl ?_ | refine TN_val (qlen Und.eq rfl) rfl rfl ?_ | refine TN_val (qfld FldC.fld rfl rfl) rfl rfl ?_ | refine TN_val (rr_nilc rfl) rfl rfl ?_ | refine TN_val (rr_eql rfl rfl (qT (by omega))) rfl rfl ?_ | refine TN_val (rr_eql rfl rfl (qF (by omega))) rfl rfl ?_)
      | refine TW_skip rfl rfl rfl rfl rfl rfl rfl ?_ | refine TW_done ?_)
    refine TW_one rfl (TL_storeB (i := 10) (cs' := #[.bool true, .slice bu (uni first1 first2).length cu, .slice bu2 (uni last1 last2).length cu2]) rfl rfl rfl rfl rfl rfl (TW_on (sub_pick [11, 12] (by decide) rfl) ?_))
    repeat (first
      | ((first | refine TW_plain rfl rfl ?_ | refine TW_gmet rfl rfl rfl rfl ?_); first | refine TN_val (qp rfl) rfl rfl ?_ | refine TN_val (qlen Und.eq rfl) rfl rfl ?_ | refine TN_val (qfld FldC.fld rfl rfl) rfl rfl ?_ | refine TN_val (rr_nilc rfl) rfl rfl ?_ | refine TN_val (rr_eql rfl rfl (qT (by omega))) rfl rfl ?_ | refine TN_val (rr_eql rfl rfl (qF (by omega))) rfl rfl ?_)
      | refine TW_skip rfl rfl rfl rfl rfl rfl rfl ?_ | refine TW_done ?_)
    repeat (first
      | refine qv rfl (qp rfl) rfl rfl ?_ | refine TL_nil ?_ | refine T_seq ?_ | refine T_region ?_ | refine qcT rfl ?_ | refine qcF rfl ?_ | refine T_skip ?_
      | refine T_ret ?_ | refine T_block ?_ | refine E_then ?_ | refine E_thenR ?_ | refine E_blockN ?_ | refine E_blockR ?_
      | refine qs rfl rfl rfl rfl rfl rfl ?_
      | ((try refine qg rfl rfl rfl ?_); first | refine qv rfl (qp rfl) rfl rfl ?_ | refine qv rfl (qlen Und.eq rfl) rfl rfl ?_ | refine qv rfl (qfld FldC.fld rfl rfl) rfl rfl ?_ | refine qv rfl (rr_nilc rfl) rfl rfl ?_ | refine qv rfl (rr_eql rfl rfl (qT (by omega))) rfl rfl ?_ | refine qv rfl (rr_eql rfl rfl (qF (by omega))) rfl rfl ?_))
    refine E_retc1 (i := 10) rfl rfl rfl rfl fun w hm => ?_
    exact hm.meetsB (S := nodeSp g vf ve rule (⟨true || e2, uni first1 first2, uni last1 last2⟩, p2)) (⟨vc, vr, vfol, vl, vs, F⟩, .slice bu (uni first1 first2).length cu, .slice bu2 (uni last1 last2).length cu2) hx2 [0, 1, 2, 3, 4, 5, 13, 14] (by decide) rfl
  | false =>
    (repeat refine T_seq ?_)
    refine T_ord ([blkO g7 #[.bool false, va1, vb1] 49, blkO g8 #[.bool e2, va2, vb2] 49]) (.calm 0 (.calm 1 (.calm 2 (.calm 3 (.calm 4 (.calm 5 (.calm 6 (.calm 7 (.calm 8 (.calm 9 (.calm 11 (.calm 12 (.calm 13 (.calm 14 (.one 10 (.one 15 (.calm 16 (.one 17 (.done))))))))))))))))))) (sub_pick [11, 12] (by decide) rfl) (by kernel_rfl) (by kernel_rfl) (by intro c a d v w h; cases d <;> exact h) ?_
    repeat (first
      | ((first | refine TW_plain rfl rfl ?_ | refine TW_gmet rfl rfl rfl rfl ?_); first | refine TN_val (qp rfl) rfl rfl ?_ | refine TN_val (rr_load1 TyC.ty rfl (at_blk (i := 0) rfl rfl)) rfl rfl ?_ | refine TN_val (rr_load1 TyC.ty rfl (at_blk (i := 1) rfl rfl)) rfl rfl ?_ | refine TN_val (qlen Und.eq rfl) rfl rfl ?_ | refine TN_val (qfld FldC.fld rfl rfl) rfl rfl ?_ | refine TN_val (rr_nilc rfl) rfl rfl ?_ | refine TN_val (rr_eql rfl rfl (qT (by omega))) rfl rfl ?_ | refine TN_val (rr_eql rfl rfl (qF (by omega))) rfl rfl ?_)
      | refine TW_skip rfl rfl rfl rfl rfl rfl rfl ?_ | refine TW_done ?_)
    refine TW_one rfl (TL_call (he2 EntersC.en rfl rfl rfl) (fun w' hm => union_calls va1 va2 first1 first2 w' (Sl.of_own (hm.get (i := 6) rfl)) (Sl.of_own (hm.get (i := 8) rfl)) (by omega) (by omega)) rfl rfl rfl ?_)
    intro vu _
    conv => arg 8; simp only [zA, zB, zC, zD, zE, zF, zG, zH, zI, rowS, ret, id_eq, intRS]
    refine TW_on (sub_pick [11, 12] (by decide) rfl) ?_
    repeat (first
      | ((first | refine TW_plain rfl rfl ?_ | refine TW_gmet rfl rfl rfl rfl ?_); first | refine TN_val (qp rfl) rfl rfl ?_ | refine TN_val (qlen Und.eq rfl) rfl rfl ?_ | refine TN_val (qfld FldC.fld rfl rfl) rfl rfl ?_ | refine TN_val (rr_nilc rfl) rfl rfl ?_ | refine TN_val (rr_eql rfl rfl (qT (by omega))) rfl rfl ?_ | refine TN_val (rr_eql rfl rfl (qF (by omega))) rfl rfl ?_)
      | refine TW_skip rfl rfl rfl rfl rfl rfl rfl ?_ | refine TW_done ?_)
    refine TW_one rfl (TL_call (he2 EntersC.en rfl rfl rfl) (fun w' hm => union_calls vb1 vb2 last1 last2 w' (Sl.of_own (hm.get (i := 7) rfl)) (Sl.of_own (hm.get (i := 9) rfl)) (by omega) (by omega)) rfl rfl rfl ?_)
    intro vu2 _
    conv => arg 8; simp only [zA, zB, zC, zD, zE, zF, zG, zH, zI, rowS, ret, id_eq, intRS]
    refine TL_rowv (i := 13) rfl fun bu cu hu _ _ => ?_
    refine TL_rowv (i := 14) rfl fun bu2 cu2 hu2 _ _ => ?_
    subst hu hu2
    refine TW_on (sub_pick [11, 12] (by decide) rfl) ?_
    repeat (first
      | ((first | refine TW_plain rfl rfl ?_ | refine TW_gmet rfl rfl rfl rfl ?_); first | refine TN_val (qp rfl) rfl rfl ?_ | refine TN_val (rr_build rfl (build_shpA _ _ _ _ _ _ _)) rfl rfl ?_ | refine TN_val (qlen Und.eq rfl) rfl rfl ?_ | refine TN_val (qfld FldC.fld rfl rfl) rfl rfl ?_ | refine TN_val (rr_nilc rfl) rfl rfl ?_ | refine TN_val (rr_eql rfl rfl (qT (by omega))) rfl rfl ?_ | refine TN_val (rr_eql rfl rfl (qF (by omega))) rfl rfl ?_)
      | refine TW_skip rfl rfl rfl rfl rfl rfl rfl ?_ | refine TW_done ?_)
    refine TW_one rfl (TL_storeB (i := 10) (cs' := #[.bool e2, .slice bu (uni first1 first2).length cu, .slice bu2 (uni last1 last2).length cu2]) rfl rfl rfl rfl rfl rfl (TW_on (sub_pick [11, 12] (by decide) rfl) ?_))
    repeat (first
      | ((first | refine TW_plain rfl rfl ?_ | refine TW_gmet rfl rfl rfl rfl ?_); first | refine TN_val (qp rfl) rfl rfl ?_ | refine TN_val (qlen Und.eq rfl) rfl rfl ?_ | refine TN_val (qfld FldC.fld rfl rfl) rfl rfl ?_ | refine TN_val (rr_nilc rfl) rfl rfl ?_ | refine TN_val (rr_eql rfl rfl (qT (by omega))) rfl rfl ?_ | refine TN_val (rr_eql rfl rfl (qF (by omega))) rfl rfl ?_)
      | refine TW_skip rfl rfl rfl rfl rfl rfl rfl ?_ | refine TW_done ?_)
    repeat (first
      | refine qv rfl (qp rfl) rfl rfl ?_ | refine TL_nil ?_ | refine T_seq ?_ | refine T_region ?_ | refine qcT rfl ?_ | refine qcF rfl ?_ | refine T_skip ?_
      | refine T_ret ?_ | refine T_block ?_ | refine E_then ?_ | refine E_thenR ?_ | refine E_blockN ?_ | refine E_blockR ?_
      | refine qs rfl rfl rfl rfl rfl rfl ?_
      | ((try refine qg rfl rfl rfl ?_); first | refine qv rfl (qp rfl) rfl rfl ?_ | refine qv rfl (qlen Und.eq rfl) rfl rfl ?_ | refine qv rfl (qfld FldC.fld rfl rfl) rfl rfl ?_ | refine qv rfl (rr_nilc rfl) rfl rfl ?_ | refine qv rfl (rr_eql rfl rfl (qT (by omega))) rfl rfl ?_ | refine qv rfl (rr_eql rfl rfl (qF (by omega))) rfl rfl ?_))
    refine E_retc1 (i := 10) rfl rfl rfl rfl fun w hm => ?_
    exact hm.meetsB (S := nodeSp g vf ve rule (⟨false || e2, uni first1 first2, uni last1 last2⟩, p2)) (⟨vc, vr, vfol, vl, vs, F⟩, .slice bu (uni first1 first2).length cu, .slice bu2 (uni last1 last2).length cu2) hx2 [0, 1, 2, 3, 4, 5, 13, 14] (by decide) rfl
end Go.Proofs.YtndbaalenclgaaaDoor.eng

/- PlC -/
namespace Go.Proofs.YtndbaalenclgaaaDoor.eng
open Go.RowKit kit mix classL rexL placesL
set_option maxHeartbeats 32000000 in
set_option maxRecDepth 100000 in
theorem node_cat {M : Nat} (IH : NodeAt M) (a b1 : Re) (ha : a.size ≤ M) (hb1 : b1.size ≤ M) (g : Nat) (vf ve : Value) (rule : Int) (p : PS) (x : MIx) (v : Value) (w : World) (B : Base) (hp : PSOk p) (hx : x.vs.length = p.follow.length) (hn : p.classes.length + (a.size + b1.size + 1) ≤ 100000) (hr64 : kit.okI64 rule) (hv : RexR (OldB B) B.w v (emb (.cat a b1))) (hm : Mem B (mkL g vf ve rule x p) w) :
    Calls Tryd.prog 11 #[.pointer (some ⟨g, 0, none⟩), v] w (MeetsB (nodeSp g vf ve rule (nodeF rule (.cat a b1) p)) B) := by
  obtain ⟨vk, rfl, _, hks⟩ := hv
  obtain ⟨bk, ck, rfl, h1, h2, h3⟩ := hks
  obtain ⟨b, off, rfl, hF, hrd⟩ := h3 (by show 0 < 2; decide)
  obtain ⟨kb, kc, hr, hkid1⟩ := rkid_at (k := 0) hrd (by show 0 < 2; decide)
  obtain ⟨kb2, kc2, hr2, hkid2⟩ := rkid_at (k := 1) hrd (by show 1 < 2; decide)
  have hat1 := fun (L : List Own) (j : Nat) (v : Value) hj => at_oldB (L := L) hF hr j v hj
  have hat2 := fun (L : List Own) (j : Nat) (v : Value) hj => at_oldB (L := L) hF hr2 j v hj
  clear h3 hrd hr hr2
  obtain ⟨hp1, hp2, hp3, hp4, hp5⟩ := node_ok rule a p hp
  obtain ⟨kp1, kp2, kp3, kp4, kp5⟩ := node_ok rule b1 _ hp1
  have hI1 := fun w B hv hm => IH a ha g vf ve rule p x (rexV (emb a).kind (emb a).cls (.slice kb (emb a).kids.length kc)) w B hp hx (by omega) hr64 hv hm
  have hI2 := fun x1 hx1 w B hv hm => IH b1 hb1 g vf ve rule (nodeF rule a p).2 x1 (rexV (emb b1).kind (emb b1).cls (.slice kb2 (emb b1).kids.length kc2)) w B hp1 hx1 (by omega) hr64 hv hm
  rw [show nodeF rule (.cat a b1) p = (⟨(nodeF rule a p).1.empty && (nodeF rule b1 (nodeF rule a p).2).1.empty, if (nodeF rule a p).1.empty then uni (nodeF rule a p).1.first (nodeF rule b1 (nodeF rule a p).2).1.first else (nodeF rule a p).1.first, if (nodeF rule b1 (nodeF rule a p).2).1.empty then uni (nodeF rule a p).1.last (nodeF rule b1 (nodeF rule a p).2).1.last else (nodeF rule b1 (nodeF rule a p).2).1.last⟩, { (nodeF rule b1 (nodeF rule a p).2).2 with follow := behindF (nodeF rule b1 (nodeF rule a p).2).2.follow (nodeF rule a p).1.last (nodeF rule b1 (nodeF rule a p).2).1.first }) from rfl]
  generalize nodeF rule b1 (nodeF rule a p).2 = R2 at *
  generalize nodeF rule a p = R1 at *
  obtain ⟨⟨e1, first1, last1⟩, p1⟩ := R1
  obtain ⟨⟨e2, first2, last2⟩, p2⟩ := R2
  dsimp only at hp1 hp2 hp3 hp4 hp5 kp1 kp2 kp3 kp4 kp5 hI2 ⊢
  unfold mkL at hm
  refine enterB hm (args := [.pointer (some ⟨g, 0, none⟩), rexV 4 C4.zero (.slice (some ⟨b, off, none⟩) 2 ck)]) (n := 176) Tryd.func11 rfl rfl rfl ?_
  clear hm
  refine T_seq (T_region (TL_box rfl rfl rfl fun g3 => TL_new rfl fun g4 => ?_))
  conv => arg 8; simp only [zA, zB, zC, zD, zE, zF, zG, zH, zI, rowS, ret, id_eq]
  repeat (first
    | refine qv rfl (qp rfl) rfl rfl ?_ | refine TL_nil ?_ | refine T_seq ?_ | refine T_region ?_ | refine qcT rfl ?_ | refine qcF rfl ?_ | refine T_skip ?_
    | refine T_ret ?_ | refine T_block ?_ | refine E_then ?_ | refine E_thenR ?_ | refine E_blockN ?_ | refine E_blockR ?_
    | refine qs rfl rfl rfl rfl rfl rfl ?_
    | ((try refine qg rfl rfl rfl ?_); first | refine qv rfl (qp rfl) rfl rfl ?_ | refine qv rfl (rr_load1 (v := .int .i64 4) TyC.ty rfl (at_blk (i := 6) rfl rfl)) rfl rfl ?_ | refine qv rfl (qlen Und.eq rfl) rfl rfl ?_ | refine qv rfl (qfld FldC.fld rfl rfl) rfl rfl ?_ | refine qv rfl (rr_nilc rfl) rfl rfl ?_ | refine qv rfl (rr_eql rfl rfl (qT (by omega))) rfl rfl ?_ | refine qv rfl (rr_eql rfl rfl (qF (by omega))) rfl rfl ?_))
  (repeat refine T_seq ?_)
  refine T_midq (ι := MIx × Value × Value × Value × Value × Nat × Nat) (fun y => y.1.vs.length = p2.follow.length) (fun y => [(0, .pointer (some ⟨g, 0, none⟩)), (4, .pointer (some ⟨g4, 0, none⟩)), (9, .pointer (some ⟨y.2.2.2.2.2.1, 0, none⟩)), (10, .pointer (some ⟨y.2.2.2.2.2.2, 0, none⟩))])
    (fun y => mkL g vf ve rule y.1 p2 ++ [intR y.2.1 first1, intR y.2.2.1 last1, intR y.2.2.2.1 first2, intR y.2.2.2.2.1 last2, blkO g4 #[.bool false, .slice none 0 0, .slice none 0 0] 49, blkO y.2.2.2.2.2.1 #[.bool e1, y.2.1, y.2.2.1] 49, blkO y.2.2.2.2.2.2 #[.bool e2, y.2.2.2.1, y.2.2.2.2.1] 49]) ?_ ?_
  · refine T_ord ([blkO g3 (rexC 4 C4.zero (.slice (some ⟨b, off, none⟩) 2 ck)).toArray 36]) (.calm 0 (.calm 1 (.calm 2 (.calm 3 (.calm 4 (.calm 6 (.calm 7 (.calm 8 (.calm 9 (.calm 10 (.three 5 (.three 11 (.two 12 (.one 13 (.one 14 (.one 15 (.done)))) 13 (.one 12 (.one 14 (.one 15 (.done))))) 12 (.two 11 (.one 13 (.one 14 (.one 15 (.done)))) 13 (.one 11 (.one 14 (.one 15 (.done))))) 13 (.two 11 (.one 12 (.one 14 (.one 15 (.done)))) 12 (.one 11 (.one 14 (.one 15 (.done)))))) 12 (.two 5 (.two 11 (.one 13 (.one 14 (.one 15 (.done)))) 13 (.one 11 (.one 14 (.one 15 (.done))))) 13 (.one 5 (.one 11 (.one 14 (.one 15 (.done)))))) 13 (.two 5 (.two 11 (.one 12 (.one 14 (.one 15 (.done)))) 12 (.one 11 (.one 14 (.one 15 (.done))))) 12 (.one 5 (.one 11 (.one 14 (.one 15 (.done))))))))))))))))) (sub_pick [6] (by decide) rfl) (by kernel_rfl) (by kernel_rfl) (by intro c a d v w h; cases d <;> exact h) ?_
    repeat (first
      | ((first | refine TW_plain rfl rfl ?_ | refine TW_gmet rfl rfl rfl rfl ?_); first | refine TN_val (qp rfl) rfl rfl ?_ | refine TN_val (rr_load1 (v := .slice (some ⟨b, off, none⟩) 2 ck) TyC.ty rfl (at_blk (i := 0) rfl rfl)) rfl rfl ?_ | refine TN_val (rr_idxc (j := 0) Und.eq TyC.ty rfl rfl (by decide)) rfl rfl ?_ | refine TN_val (rr_idxc (j := 1) Und.eq TyC.ty rfl rfl (by decide)) rfl rfl ?_ | refine TN_val (rr_loadN TyC.ty rfl rfl (hat1 _)) rfl rfl ?_ | refine TN_val (rr_loadN TyC.ty rfl rfl (hat2 _)) rfl rfl ?_ | refine TN_val (qlen Und.eq rfl) rfl rfl ?_ | refine TN_val (qfld FldC.fld rfl rfl) rfl rfl ?_ | refine TN_val (rr_nilc rfl) rfl rfl ?_ | refine TN_val (rr_eql rfl rfl (qT (by omega))) rfl rfl ?_ | refine TN_val (rr_eql rfl rfl (qF (by omega))) rfl rfl ?_)
      | refine TW_skip rfl rfl rfl rfl rfl rfl rfl ?_ | refine TW_done ?_)
    refine TW_three rfl rfl rfl ?_ ?_ ?_
    · refine TL_callB [0, 1, 2, 3, 4, 5] [6, 7] (by decide) rfl rfl (he2 EntersC.en rfl rfl rfl) (fun w hm hb => hI1 w _ (rex_on (hm.pick [0, 1, 2, 3, 4, 5] (by decide) rfl) hkid1) hb) rfl rfl rfl ?_
      rintro ⟨⟨vc1, vr1, vfol1, vl1, vs1, F1⟩, va1, vb1⟩ hx1
      have hx1 : vs1.length = p1.follow.length := hx1
      conv => arg 8; simp only [zA, zB, zC, zD, zE, zF, zG, zH, zI, rowS, ret, id_eq, nodeSp, mkL]
      conv => arg 7; simp only [nodeSp]
      refine TW_on (sub_pick [0] (by decide) rfl) ?_
      refine TW_three rfl rfl rfl ?_ ?_ ?_
      · refine TL_callB [2, 3, 4, 5, 6, 7] [0, 1, 8, 9] (by decide) rfl rfl (he2 EntersC.en rfl rfl rfl) (fun w hm hb => hI2 ⟨vc1, vr1, vfol1, vl1, vs1, F1⟩ hx1 w _ (rex_on (hm.pick [2, 3, 4, 5, 6, 7] (by decide) rfl) hkid2) hb) rfl rfl rfl ?_
        rintro ⟨⟨vc2, vr2, vfol2, vl2, vs2, F2⟩, va2, vb2⟩ hx2
        have hx2 : vs2.length = p2.follow.length := hx2
        conv => arg 8; simp only [zA, zB, zC, zD, zE, zF, zG, zH, zI, rowS, ret, id_eq, nodeSp, mkL]
        conv => arg 7; simp only [nodeSp]
        refine TW_on (sub_pick [0] (by decide) rfl) ?_
        refine TW_two rfl rfl ?_ ?_
        · refine TL_new rfl fun g7 => (TW_on (sub_pick [0] (by decide) rfl) ?_)
          refine TW_one rfl (TL_new rfl fun g8 => (TW_on (sub_pick [0] (by decide) rfl) ?_))
          refine TW_one rfl (TL_slv (i := 2) rfl fun _ qa1 => TL_slv (i := 3) rfl fun _ qb1 => TL_storeB (i := 12) (cs' := #[.bool e1, va1, vb1]) rfl rfl rfl rfl (by simp only [List.all_cons, List.all_nil, qa1, qb1]; rfl) rfl (TW_on (sub_pick [0] (by decide) rfl) ?_))
          repeat (first
            | ((first | refine TW_plain rfl rfl ?_ | refine TW_gmet rfl rfl rfl rfl ?_); first | refine TN_val (qp rfl) rfl rfl ?_ | refine TN_val (qlen Und.eq rfl) rfl rfl ?_ | refine TN_val (qfld FldC.fld rfl rfl) rfl rfl ?_ | refine TN_val (rr_nilc rfl) rfl rfl ?_ | refine TN_val (rr_eql rfl rfl (qT (by omega))) rfl rfl ?_ | refine TN_val (rr_eql rfl rfl (qF (by omega))) rfl rfl ?_)
            | refine TW_skip rfl rfl rfl rfl rfl rfl rfl ?_ | refine TW_done ?_)
          refine TW_one rfl (TL_slv (i := 10) rfl fun _ qa2 => TL_slv (i := 11) rfl fun _ qb2 => TL_storeB (i := 13) (cs' := #[.bool e2, va2, vb2]) rfl rfl rfl rfl (by simp only [List.all_cons, List.all_nil, qa2, qb2]; rfl) rfl (TW_on (sub_pick [0] (by decide) rfl) ?_))
          repeat (first
            | ((first | refine TW_plain rfl rfl ?_ | refine TW_gmet rfl rfl rfl rfl ?_); first | refine TN_val (qp rfl) rfl rfl ?_ | refine TN_val (qlen Und.eq rfl) rfl rfl ?_ | refine TN_val (qfld FldC.fld rfl rfl) rfl rfl ?_ | refine TN_val (rr_nilc rfl) rfl rfl ?_ | refine TN_val (rr_eql rfl rfl (qT (by omega))) rfl rfl ?_ | refine TN_val (rr_eql rfl rfl (qF (by omega))) rfl rfl ?_)
            | refine TW_skip rfl rfl rfl rfl rfl rfl rfl ?_ | refine TW_done ?_)
          refine E_pick [4, 5, 6, 7, 8, 9, 2, 3, 10, 11, 1, 12, 13] (by decide) rfl ?_
          exact E_mid (⟨vc2, vr2, vfol2, vl2, vs2, F2⟩, va1, vb1, va2, vb2, g7, g8) hx2 (by repeat' (first | exact True.intro | refine And.intro rfl ?_)) rfl
        · refine TL_new rfl fun g8 => (TW_on (sub_pick [0] (by decide) rfl) ?_)
          refine TW_one rfl (TL_new rfl fun g7 => (TW_on (sub_pick [0] (by decide) rfl) ?_))
          refine TW_one rfl (TL_slv (i := 2) rfl fun _ qa1 => TL_slv (i := 3) rfl fun _ qb1 => TL_storeB (i := 13) (cs' := #[.bool e1, va1, vb1]) rfl rfl rfl rfl (by simp only [List.all_cons, List.all_nil, qa1, qb1]; rfl) rfl (TW_on (sub_pick [0] (by decide) rfl) ?_))
          repeat (first
            | ((first | refine TW_plain rfl rfl ?_ | refine TW_gmet rfl rfl rfl rfl ?_); first | refine TN_val (qp rfl) rfl rfl ?_ | refine TN_val (qlen Und.eq rfl) rfl rfl ?_ | refine TN_val (qfld FldC.fld rfl rfl) rfl rfl ?_ | refine TN_val (rr_nilc rfl) rfl rfl ?_ | refine TN_val (rr_eql rfl rfl (qT (by omega))) rfl rfl ?_ | refine TN_val (rr_eql rfl rfl (qF (by omega))) rfl rfl ?_)
            | refine TW_skip rfl rfl rfl rfl rfl rfl rfl ?_ | refine TW_done ?_)
          refine TW_one rfl (TL_slv (i := 10) rfl fun _ qa2 => TL_slv (i := 11) rfl fun _ qb2 => TL_storeB (i := 12) (cs' := #[.bool e2, va2, vb2]) rfl rfl rfl rfl (by simp only [List.all_cons, List.all_nil, qa2, qb2]; rfl) rfl (TW_on (sub_pick [0] (by decide) rfl) ?_))
          repeat (first
            | ((first | refine TW_plain rfl rfl ?_ | refine TW_gmet rfl rfl rfl rfl ?_); first | refine TN_val (qp rfl) rfl rfl ?_ | refine TN_val (qlen Und.eq rfl) rfl rfl ?_ | refine TN_val (qfld FldC.fld rfl rfl) rfl rfl ?_ | refine TN_val (rr_nilc rfl) rfl rfl ?_ | refine TN_val (rr_eql rfl rfl (qT (by omega))) rfl rfl ?_ | refine TN_val (rr_eql rfl rfl (qF (by omega))) rfl rfl ?_)
            | refine TW_skip rfl rfl rfl rfl rfl rfl rfl ?_ | refine TW_done ?_)
          refine E_pick [4, 5, 6, 7, 8, 9, 2, 3, 10, 11, 1, 13, 12] (by decide) rfl ?_
          exact E_mid (⟨vc2, vr2, vfol2, vl2, vs2, F2⟩, va1, vb1, va2, vb2, g7, g8) hx2 (by repeat' (first | exact True.intro | refine And.intro rfl ?_)) rfl
      · refine TL_new rfl fun g7 => (TW_on (sub_pick [0] (by decide) rfl) ?_)
        refine TW_two rfl rfl ?_ ?_
        · refine TL_callB [2, 3, 4, 5, 6, 7] [0, 1, 8, 9, 10] (by decide) rfl rfl (he2 EntersC.en rfl rfl rfl) (fun w hm hb => hI2 ⟨vc1, vr1, vfol1, vl1, vs1, F1⟩ hx1 w _ (rex_on (hm.pick [2, 3, 4, 5, 6, 7] (by decide) rfl) hkid2) hb) rfl rfl rfl ?_
          rintro ⟨⟨vc2, vr2, vfol2, vl2, vs2, F2⟩, va2, vb2⟩ hx2
          have hx2 : vs2.length = p2.follow.length := hx2
          conv => arg 8; simp only [zA, zB, zC, zD, zE, zF, zG, zH, zI, rowS, ret, id_eq, nodeSp, mkL]
          conv => arg 7; simp only [nodeSp]
          refine TW_on (sub_pick [0] (by decide) rfl) ?_
          refine TW_one rfl (TL_new rfl fun g8 => (TW_on (sub_pick [0] (by decide) rfl) ?_))
          refine TW_one rfl (TL_slv (i := 2) rfl fun _ qa1 => TL_slv (i := 3) rfl fun _ qb1 => TL_storeB (i := 4) (cs' := #[.bool e1, va1, vb1]) rfl rfl rfl rfl (by simp only [List.all_cons, List.all_nil, qa1, qb1]; rfl) rfl (TW_on (sub_pick [0] (by decide) rfl) ?_))
          repeat (first
            | ((first | refine TW_plain rfl rfl ?_ | refine TW_gmet rfl rfl rfl rfl ?_); first | refine TN_val (qp rfl) rfl rfl ?_ | refine TN_val (qlen Und.eq rfl) rfl rfl ?_ | refine TN_val (qfld FldC.fld rfl rfl) rfl rfl ?_ | refine TN_val (rr_nilc rfl) rfl rfl ?_ | refine TN_val (rr_eql rfl rfl (qT (by omega))) rfl rfl ?_ | refine TN_val (rr_eql rfl rfl (qF (by omega))) rfl rfl ?_)
            | refine TW_skip rfl rfl rfl rfl rfl rfl rfl ?_ | refine TW_done ?_)
          refine TW_one rfl (TL_slv (i := 11) rfl fun _ qa2 => TL_slv (i := 12) rfl fun _ qb2 => TL_storeB (i := 13) (cs' := #[.bool e2, va2, vb2]) rfl rfl rfl rfl (by simp only [List.all_cons, List.all_nil, qa2, qb2]; rfl) rfl (TW_on (sub_pick [0] (by decide) rfl) ?_))
          repeat (first
            | ((first | refine TW_plain rfl rfl ?_ | refine TW_gmet rfl rfl rfl rfl ?_); first | refine TN_val (qp rfl) rfl rfl ?_ | refine TN_val (qlen Und.eq rfl) rfl rfl ?_ | refine TN_val (qfld FldC.fld rfl rfl) rfl rfl ?_ | refine TN_val (rr_nilc rfl) rfl rfl ?_ | refine TN_val (rr_eql rfl rfl (qT (by omega))) rfl rfl ?_ | refine TN_val (rr_eql rfl rfl (qF (by omega))) rfl rfl ?_)
            | refine TW_skip rfl rfl rfl rfl rfl rfl rfl ?_ | refine TW_done ?_)
          refine E_pick [5, 6, 7, 8, 9, 10, 2, 3, 11, 12, 1, 4, 13] (by decide) rfl ?_
          exact E_mid (⟨vc2, vr2, vfol2, vl2, vs2, F2⟩, va1, vb1, va2, vb2, g7, g8) hx2 (by repeat' (first | exact True.intro | refine And.intro rfl ?_)) rfl
        · refine TL_new rfl fun g8 => (TW_on (sub_pick [0] (by decide) rfl) ?_)
          refine TW_one rfl (TL_callB [2, 3, 4, 5, 6, 7] [0, 1, 8, 9, 10, 11] (by decide) rfl rfl (he2 EntersC.en rfl rfl rfl) (fun w hm hb => hI2 ⟨vc1, vr1, vfol1, vl1, vs1, F1⟩ hx1 w _ (rex_on (hm.pick [2, 3, 4, 5, 6, 7] (by decide) rfl) hkid2) hb) rfl rfl rfl ?_)
          rintro ⟨⟨vc2, vr2, vfol2, vl2, vs2, F2⟩, va2, vb2⟩ hx2
          have hx2 : vs2.length = p2.follow.length := hx2
          conv => arg 8; simp only [zA, zB, zC, zD, zE, zF, zG, zH, zI, rowS, ret, id_eq, nodeSp, mkL]
          conv => arg 7; simp only [nodeSp]
          refine TW_on (sub_pick [0] (by decide) rfl) ?_
          refine TW_one rfl (TL_slv (i := 2) rfl fun _ qa1 => TL_slv (i := 3) rfl fun _ qb1 => TL_storeB (i := 4) (cs' := #[.bool e1, va1, vb1]) rfl rfl rfl rfl (by simp only [List.all_cons, List.all_nil, qa1, qb1]; rfl) rfl (TW_on (sub_pick [0] (by decide) rfl) ?_))
          repeat (first
            | ((first | refine TW_plain rfl rfl ?_ | refine TW_gmet rfl rfl rfl rfl ?_); first | refine TN_val (qp rfl) rfl rfl ?_ | refine TN_val (qlen Und.eq rfl) rfl rfl ?_ | refine TN_val (qfld FldC.fld rfl rfl) rfl rfl ?_ | refine TN_val (rr_nilc rfl) rfl rfl ?_ | refine TN_val (rr_eql rfl rfl (qT (by omega))) rfl rfl ?_ | refine TN_val (rr_eql rfl rfl (qF (by omega))) rfl rfl ?_)
            | refine TW_skip rfl rfl rfl rfl rfl rfl rfl ?_ | refine TW_done ?_)
          refine TW_one rfl (TL_slv (i := 12) rfl fun _ qa2 => TL_slv (i := 13) rfl fun _ qb2 => TL_storeB (i := 5) (cs' := #[.bool e2, va2, vb2]) rfl rfl rfl rfl (by simp only [List.all_cons, List.all_nil, qa2, qb2]; rfl) rfl (TW_on (sub_pick [0] (by decide) rfl) ?_))
          repeat (first
            | ((first | refine TW_plain rfl rfl ?_ | refine TW_gmet rfl rfl rfl rfl ?_); first | refine TN_val (qp rfl) rfl rfl ?_ | refine TN_val (qlen Und.eq rfl) rfl rfl ?_ | refine TN_val (qfld FldC.fld rfl rfl) rfl rfl ?_ | refine TN_val (rr_nilc rfl) rfl rfl ?_ | refine TN_val (rr_eql rfl rfl (qT (by omega))) rfl rfl ?_ | refine TN_val (rr_eql rfl rfl (qF (by omega))) rfl rfl ?_)
            | refine TW_skip rfl rfl rfl rfl rfl rfl rfl ?_ | refine TW_done ?_)
          refine E_pick [6, 7, 8, 9, 10, 11, 2, 3, 12, 13, 1, 4, 5] (by decide) rfl ?_
          exact E_mid (⟨vc2, vr2, vfol2, vl2, vs2, F2⟩, va1, vb1, va2, vb2, g7, g8) hx2 (by repeat' (first | exact True.intro | refine And.intro rfl ?_)) rfl
      · refine TL_new rfl fun g8 => (TW_on (sub_pick [0] (by decide) rfl) ?_)
        refine TW_two rfl rfl ?_ ?_
        · refine TL_callB [2, 3, 4, 5, 6, 7] [0, 1, 8, 9, 10] (by decide) rfl rfl (he2 EntersC.en rfl rfl rfl) (fun w hm hb => hI2 ⟨vc1, vr1, vfol1, vl1, vs1, F1⟩ hx1 w _ (rex_on (hm.pick [2, 3, 4, 5, 6, 7] (by decide) rfl) hkid2) hb) rfl rfl rfl ?_
          rintro ⟨⟨vc2, vr2, vfol2, vl2, vs2, F2⟩, va2, vb2⟩ hx2
          have hx2 : vs2.length = p2.follow.length := hx2
          conv => arg 8; simp only [zA, zB, zC, zD, zE, zF, zG, zH, zI, rowS, ret, id_eq, nodeSp, mkL]
          conv => arg 7; simp only [nodeSp]
          refine TW_on (sub_pick [0] (by decide) rfl) ?_
          refine TW_one rfl (TL_new rfl fun g7 => (TW_on (sub_pick [0] (by decide) rfl) ?_))
          refine TW_one rfl (TL_slv (i := 2) rfl fun _ qa1 => TL_slv (i := 3) rfl fun _ qb1 => TL_storeB (i := 13) (cs' := #[.bool e1, va1, vb1]) rfl rfl rfl rfl (by simp only [List.all_cons, List.all_nil, qa1, qb1]; rfl) rfl (TW_on (sub_pick [0] (by decide) rfl) ?_))
          repeat (first
            | ((first | refine TW_plain rfl rfl ?_ | refine TW_gmet rfl rfl rfl rfl ?_); first | refine TN_val (qp rfl) rfl rfl ?_ | refine TN_val (qlen Und.eq rfl) rfl rfl ?_ | refine TN_val (qfld FldC.fld rfl rfl) rfl rfl ?_ | refine TN_val (rr_nilc rfl) rfl rfl ?_ | refine TN_val (rr_eql rfl rfl (qT (by omega))) rfl rfl ?_ | refine TN_val (rr_eql rfl rfl (qF (by omega))) rfl rfl ?_)
            | refine TW_skip rfl rfl rfl rfl rfl rfl rfl ?_ | refine TW_done ?_)
          refine TW_one rfl (TL_slv (i := 11) rfl fun _ qa2 => TL_slv (i := 12) rfl fun _ qb2 => TL_storeB (i := 4) (cs' := #[.bool e2, va2, vb2]) rfl rfl rfl rfl (by simp only [List.all_cons, List.all_nil, qa2, qb2]; rfl) rfl (TW_on (sub_pick [0] (by decide) rfl) ?_))
          repeat (first
            | ((first | refine TW_plain rfl rfl ?_ | refine TW_gmet rfl rfl rfl rfl ?_); first | refine TN_val (qp rfl) rfl rfl ?_ | refine TN_val (qlen Und.eq rfl) rfl rfl ?_ | refine TN_val (qfld FldC.fld rfl rfl) rfl rfl ?_ | refine TN_val (rr_nilc rfl) rfl rfl ?_ | refine TN_val (rr_eql rfl rfl (qT (by omega))) rfl rfl ?_ | refine TN_val (rr_eql rfl rfl (qF (by omega))) rfl rfl ?_)
            | refine TW_skip rfl rfl rfl rfl rfl rfl rfl ?_ | refine TW_done ?_)
          refine E_pick [5, 6, 7, 8, 9, 10, 2, 3, 11, 12, 1, 13, 4] (by decide) rfl ?_
          exact E_mid (⟨vc2, vr2, vfol2, vl2, vs2, F2⟩, va1, vb1, va2, vb2, g7, g8) hx2 (by repeat' (first | exact True.intro | refine And.intro rfl ?_)) rfl
        · refine TL_new rfl fun g7 => (TW_on (sub_pick [0] (by decide) rfl) ?_)
          refine TW_one rfl (TL_callB [2, 3, 4, 5, 6, 7] [0, 1, 8, 9, 10, 11] (by decide) rfl rfl (he2 EntersC.en rfl rfl rfl) (fun w hm hb => hI2 ⟨vc1, vr1, vfol1, vl1, vs1, F1⟩ hx1 w _ (rex_on (hm.pick [2, 3, 4, 5, 6, 7] (by decide) rfl) hkid2) hb) rfl rfl rfl ?_)
          rintro ⟨⟨vc2, vr2, vfol2, vl2, vs2, F2⟩, va2, vb2⟩ hx2
          have hx2 : vs2.length = p2.follow.length := hx2
          conv => arg 8; simp only [zA, zB, zC, zD, zE, zF, zG, zH, zI, rowS, ret, id_eq, nodeSp, mkL]
          conv => arg 7; simp only [nodeSp]
          refine TW_on (sub_pick [0] (by decide) rfl) ?_
          refine TW_one rfl (TL_slv (i := 2) rfl fun _ qa1 => TL_slv (i := 3) rfl fun _ qb1 => TL_storeB (i := 5) (cs' := #[.bool e1, va1, vb1]) rfl rfl rfl rfl (by simp only [List.all_cons, List.all_nil, qa1, qb1]; rfl) rfl (TW_on (sub_pick [0] (by decide) rfl) ?_))
          repeat (first
            | ((first | refine TW_plain rfl rfl ?_ | refine TW_gmet rfl rfl rfl rfl ?_); first | refine TN_val (qp rfl) rfl rfl ?_ | refine TN_val (qlen Und.eq rfl) rfl rfl ?_ | refine TN_val (qfld FldC.fld rfl rfl) rfl rfl ?_ | refine TN_val (rr_nilc rfl) rfl rfl ?_ | refine TN_val (rr_eql rfl rfl (qT (by omega))) rfl rfl ?_ | refine TN_val (rr_eql rfl rfl (qF (by omega))) rfl rfl ?_)
            | refine TW_skip rfl rfl rfl rfl rfl rfl rfl ?_ | refine TW_done ?_)
          refine TW_one rfl (TL_slv (i := 12) rfl fun _ qa2 => TL_slv (i := 13) rfl fun _ qb2 => TL_storeB (i := 4) (cs' := #[.bool e2, va2, vb2]) rfl rfl rfl rfl (by simp only [List.all_cons, List.all_nil, qa2, qb2]; rfl) rfl (TW_on (sub_pick [0] (by decide) rfl) ?_))
          repeat (first
            | ((first | refine TW_plain rfl rfl ?_ | refine TW_gmet rfl rfl rfl rfl ?_); first | refine TN_val (qp rfl) rfl rfl ?_ | refine TN_val (qlen Und.eq rfl) rfl rfl ?_ | refine TN_val (qfld FldC.fld rfl rfl) rfl rfl ?_ | refine TN_val (rr_nilc rfl) rfl rfl ?_ | refine TN_val (rr_eql rfl rfl (qT (by omega))) rfl rfl ?_ | refine TN_val (rr_eql rfl rfl (qF (by omega))) rfl rfl ?_)
            | refine TW_skip rfl rfl rfl rfl rfl rfl rfl ?_ | refine TW_done ?_)
          refine E_pick [6, 7, 8, 9, 10, 11, 2, 3, 12, 13, 1, 5, 4] (by decide) rfl ?_
          exact E_mid (⟨vc2, vr2, vfol2, vl2, vs2, F2⟩, va1, vb1, va2, vb2, g7, g8) hx2 (by repeat' (first | exact True.intro | refine And.intro rfl ?_)) rfl
    · refine TL_new rfl fun g7 => (TW_on (sub_pick [6] (by decide) rfl) ?_)
      refine TW_two rfl rfl ?_ ?_
      · refine TL_callB [0, 1, 2, 3, 4, 5] [6, 7, 8] (by decide) rfl rfl (he2 EntersC.en rfl rfl rfl) (fun w hm hb => hI1 w _ (rex_on (hm.pick [0, 1, 2, 3, 4, 5] (by decide) rfl) hkid1) hb) rfl rfl rfl ?_
        rintro ⟨⟨vc1, vr1, vfol1, vl1, vs1, F1⟩, va1, vb1⟩ hx1
        have hx1 : vs1.length = p1.follow.length := hx1
        conv => arg 8; simp only [zA, zB, zC, zD, zE, zF, zG, zH, zI, rowS, ret, id_eq, nodeSp, mkL]
        conv => arg 7; simp only [nodeSp]
        refine TW_on (sub_pick [0] (by decide) rfl) ?_
        refine TW_two rfl rfl ?_ ?_
        · refine TL_callB [3, 4, 5, 6, 7, 8] [0, 1, 2, 9, 10] (by decide) rfl rfl (he2 EntersC.en rfl rfl rfl) (fun w hm hb => hI2 ⟨vc1, vr1, vfol1, vl1, vs1, F1⟩ hx1 w _ (rex_on (hm.pick [3, 4, 5, 6, 7, 8] (by decide) rfl) hkid2) hb) rfl rfl rfl ?_
          rintro ⟨⟨vc2, vr2, vfol2, vl2, vs2, F2⟩, va2, vb2⟩ hx2
          have hx2 : vs2.length = p2.follow.length := hx2
          conv => arg 8; simp only [zA, zB, zC, zD, zE, zF, zG, zH, zI, rowS, ret, id_eq, nodeSp, mkL]
          conv => arg 7; simp only [nodeSp]
          refine TW_on (sub_pick [0] (by decide) rfl) ?_
          refine TW_one rfl (TL_new rfl fun g8 => (TW_on (sub_pick [0] (by decide) rfl) ?_))
          refine TW_one rfl (TL_slv (i := 3) rfl fun _ qa1 => TL_slv (i := 4) rfl fun _ qb1 => TL_storeB (i := 2) (cs' := #[.bool e1, va1, vb1]) rfl rfl rfl rfl (by simp only [List.all_cons, List.all_nil, qa1, qb1]; rfl) rfl (TW_on (sub_pick [0] (by decide) rfl) ?_))
          repeat (first
            | ((first | refine TW_plain rfl rfl ?_ | refine TW_gmet rfl rfl rfl rfl ?_); first | refine TN_val (qp rfl) rfl rfl ?_ | refine TN_val (qlen Und.eq rfl) rfl rfl ?_ | refine TN_val (qfld FldC.fld rfl rfl) rfl rfl ?_ | refine TN_val (rr_nilc rfl) rfl rfl ?_ | refine TN_val (rr_eql rfl rfl (qT (by omega))) rfl rfl ?_ | refine TN_val (rr_eql rfl rfl (qF (by omega))) rfl rfl ?_)
            | refine TW_skip rfl rfl rfl rfl rfl rfl rfl ?_ | refine TW_done ?_)
          refine TW_one rfl (TL_slv (i := 11) rfl fun _ qa2 => TL_slv (i := 12) rfl fun _ qb2 => TL_storeB (i := 13) (cs' := #[.bool e2, va2, vb2]) rfl rfl rfl rfl (by simp only [List.all_cons, List.all_nil, qa2, qb2]; rfl) rfl (TW_on (sub_pick [0] (by decide) rfl) ?_))
          repeat (first
            | ((first | refine TW_plain rfl rfl ?_ | refine TW_gmet rfl rfl rfl rfl ?_); first | refine TN_val (qp rfl) rfl rfl ?_ | refine TN_val (qlen Und.eq rfl) rfl rfl ?_ | refine TN_val (qfld FldC.fld rfl rfl) rfl rfl ?_ | refine TN_val (rr_nilc rfl) rfl rfl ?_ | refine TN_val (rr_eql rfl rfl (qT (by omega))) rfl rfl ?_ | refine TN_val (rr_eql rfl rfl (qF (by omega))) rfl rfl ?_)
            | refine TW_skip rfl rfl rfl rfl rfl rfl rfl ?_ | refine TW_done ?_)
          refine E_pick [5, 6, 7, 8, 9, 10, 3, 4, 11, 12, 1, 2, 13] (by decide) rfl ?_
          exact E_mid (⟨vc2, vr2, vfol2, vl2, vs2, F2⟩, va1, vb1, va2, vb2, g7, g8) hx2 (by repeat' (first | exact True.intro | refine And.intro rfl ?_)) rfl
        · refine TL_new rfl fun g8 => (TW_on (sub_pick [0] (by decide) rfl) ?_)
          refine TW_one rfl (TL_callB [3, 4, 5, 6, 7, 8] [0, 1, 2, 9, 10, 11] (by decide) rfl rfl (he2 EntersC.en rfl rfl rfl) (fun w hm hb => hI2 ⟨vc1, vr1, vfol1, vl1, vs1, F1⟩ hx1 w _ (rex_on (hm.pick [3, 4, 5, 6, 7, 8] (by decide) rfl) hkid2) hb) rfl rfl rfl ?_)
          rintro ⟨⟨vc2, vr2, vfol2, vl2, vs2, F2⟩, va2, vb2⟩ hx2
          have hx2 : vs2.length = p2.follow.length := hx2
          conv => arg 8; simp only [zA, zB, zC, zD, zE, zF, zG, zH, zI, rowS, ret, id_eq, nodeSp, mkL]
          conv => arg 7; simp only [nodeSp]
          refine TW_on (sub_pick [0] (by decide) rfl) ?_
          refine TW_one rfl (TL_slv (i := 3) rfl fun _ qa1 => TL_slv (i := 4) rfl fun _ qb1 => TL_storeB (i := 2) (cs' := #[.bool e1, va1, vb1]) rfl rfl rfl rfl (by simp only [List.all_cons, List.all_nil, qa1, qb1]; rfl) rfl (TW_on (sub_pick [0] (by decide) rfl) ?_))
          repeat (first
            | ((first | refine TW_plain rfl rfl ?_ | refine TW_gmet rfl rfl rfl rfl ?_); first | refine TN_val (qp rfl) rfl rfl ?_ | refine TN_val (qlen Und.eq rfl) rfl rfl ?_ | refine TN_val (qfld FldC.fld rfl rfl) rfl rfl ?_ | refine TN_val (rr_nilc rfl) rfl rfl ?_ | refine TN_val (rr_eql rfl rfl (qT (by omega))) rfl rfl ?_ | refine TN_val (rr_eql rfl rfl (qF (by omega))) rfl rfl ?_)
            | refine TW_skip rfl rfl rfl rfl rfl rfl rfl ?_ | refine TW_done ?_)
          refine TW_one rfl (TL_slv (i := 12) rfl fun _ qa2 => TL_slv (i := 13) rfl fun _ qb2 => TL_storeB (i := 5) (cs' := #[.bool e2, va2, vb2]) rfl rfl rfl rfl (by simp only [List.all_cons, List.all_nil, qa2, qb2]; rfl) rfl (TW_on (sub_pick [0] (by decide) rfl) ?_))
          repeat (first
            | ((first | refine TW_plain rfl rfl ?_ | refine TW_gmet rfl rfl rfl rfl ?_); first | refine TN_val (qp rfl) rfl rfl ?_ | refine TN_val (qlen Und.eq rfl) rfl rfl ?_ | refine TN_val (qfld FldC.fld rfl rfl) rfl rfl ?_ | refine TN_val (rr_nilc rfl) rfl rfl ?_ | refine TN_val (rr_eql rfl rfl (qT (by omega))) rfl rfl ?_ | refine TN_val (rr_eql rfl rfl (qF (by omega))) rfl rfl ?_)
            | refine TW_skip rfl rfl rfl rfl rfl rfl rfl ?_ | refine TW_done ?_)
          refine E_pick [6, 7, 8, 9, 10, 11, 3, 4, 12, 13, 1, 2, 5] (by decide) rfl ?_
          exact E_mid (⟨vc2, vr2, vfol2, vl2, vs2, F2⟩, va1, vb1, va2, vb2, g7, g8) hx2 (by repeat' (first | exact True.intro | refine And.intro rfl ?_)) rfl
      · refine TL_new rfl fun g8 => (TW_on (sub_pick [6] (by decide) rfl) ?_)
        refine TW_one rfl (TL_callB [0, 1, 2, 3, 4, 5] [6, 7, 8, 9] (by decide) rfl rfl (he2 EntersC.en rfl rfl rfl) (fun w hm hb => hI1 w _ (rex_on (hm.pick [0, 1, 2, 3, 4, 5] (by decide) rfl) hkid1) hb) rfl rfl rfl ?_)
        rintro ⟨⟨vc1, vr1, vfol1, vl1, vs1, F1⟩, va1, vb1⟩ hx1
        have hx1 : vs1.length = p1.follow.length := hx1
        conv => arg 8; simp only [zA, zB, zC, zD, zE, zF, zG, zH, zI, rowS, ret, id_eq, nodeSp, mkL]
        conv => arg 7; simp only [nodeSp]
        refine TW_on (sub_pick [0] (by decide) rfl) ?_
        refine TW_one rfl (TL_callB [4, 5, 6, 7, 8, 9] [0, 1, 2, 3, 10, 11] (by decide) rfl rfl (he2 EntersC.en rfl rfl rfl) (fun w hm hb => hI2 ⟨vc1, vr1, vfol1, vl1, vs1, F1⟩ hx1 w _ (rex_on (hm.pick [4, 5, 6, 7, 8, 9] (by decide) rfl) hkid2) hb) rfl rfl rfl ?_)
        rintro ⟨⟨vc2, vr2, vfol2, vl2, vs2, F2⟩, va2, vb2⟩ hx2
        have hx2 : vs2.length = p2.follow.length := hx2
        conv => arg 8; simp only [zA, zB, zC, zD, zE, zF, zG, zH, zI, rowS, ret, id_eq, nodeSp, mkL]
        conv => arg 7; simp only [nodeSp]
        refine TW_on (sub_pick [0] (by decide) rfl) ?_
        refine TW_one rfl (TL_slv (i := 4) rfl fun _ qa1 => TL_slv (i := 5) rfl fun _ qb1 => TL_storeB (i := 2) (cs' := #[.bool e1, va1, vb1]) rfl rfl rfl rfl (by simp only [List.all_cons, List.all_nil, qa1, qb1]; rfl) rfl (TW_on (sub_pick [0] (by decide) rfl) ?_))
        repeat (first
          | ((first | refine TW_plain rfl rfl ?_ | refine TW_gmet rfl rfl rfl rfl ?_); first | refine TN_val (qp rfl) rfl rfl ?_ | refine TN_val (qlen Und.eq rfl) rfl rfl ?_ | refine TN_val (qfld FldC.fld rfl rfl) rfl rfl ?_ | refine TN_val (rr_nilc rfl) rfl rfl ?_ | refine TN_val (rr_eql rfl rfl (qT (by omega))) rfl rfl ?_ | refine TN_val (rr_eql rfl rfl (qF (by omega))) rfl rfl ?_)
          | refine TW_skip rfl rfl rfl rfl rfl rfl rfl ?_ | refine TW_done ?_)
        refine TW_one rfl (TL_slv (i := 12) rfl fun _ qa2 => TL_slv (i := 13) rfl fun _ qb2 => TL_storeB (i := 3) (cs' := #[.bool e2, va2, vb2]) rfl rfl rfl rfl (by simp only [List.all_cons, List.all_nil, qa2, qb2]; rfl) rfl (TW_on (sub_pick [0] (by decide) rfl) ?_))
        repeat (first
          | ((first | refine TW_plain rfl rfl ?_ | refine TW_gmet rfl rfl rfl rfl ?_); first | refine TN_val (qp rfl) rfl rfl ?_ | refine TN_val (qlen Und.eq rfl) rfl rfl ?_ | refine TN_val (qfld FldC.fld rfl rfl) rfl rfl ?_ | refine TN_val (rr_nilc rfl) rfl rfl ?_ | refine TN_val (rr_eql rfl rfl (qT (by omega))) rfl rfl ?_ | refine TN_val (rr_eql rfl rfl (qF (by omega))) rfl rfl ?_)
          | refine TW_skip rfl rfl rfl rfl rfl rfl rfl ?_ | refine TW_done ?_)
        refine E_pick [6, 7, 8, 9, 10, 11, 4, 5, 12, 13, 1, 2, 3] (by decide) rfl ?_
        exact E_mid (⟨vc2, vr2, vfol2, vl2, vs2, F2⟩, va1, vb1, va2, vb2, g7, g8) hx2 (by repeat' (first | exact True.intro | refine And.intro rfl ?_)) rfl
    · refine TL_new rfl fun g8 => (TW_on (sub_pick [6] (by decide) rfl) ?_)
      refine TW_two rfl rfl ?_ ?_
      · refine TL_callB [0, 1, 2, 3, 4, 5] [6, 7, 8] (by decide) rfl rfl (he2 EntersC.en rfl rfl rfl) (fun w hm hb => hI1 w _ (rex_on (hm.pick [0, 1, 2, 3, 4, 5] (by decide) rfl) hkid1) hb) rfl rfl rfl ?_
        rintro ⟨⟨vc1, vr1, vfol1, vl1, vs1, F1⟩, va1, vb1⟩ hx1
        have hx1 : vs1.length = p1.follow.length := hx1
        conv => arg 8; simp only [zA, zB, zC, zD, zE, zF, zG, zH, zI, rowS, ret, id_eq, nodeSp, mkL]
        conv => arg 7; simp only [nodeSp]
        refine TW_on (sub_pick [0] (by decide) rfl) ?_
        refine TW_two rfl rfl ?_ ?_
        · refine TL_callB [3, 4, 5, 6, 7, 8] [0, 1, 2, 9, 10] (by decide) rfl rfl (he2 EntersC.en rfl rfl rfl) (fun w hm hb => hI2 ⟨vc1, vr1, vfol1, vl1, vs1, F1⟩ hx1 w _ (rex_on (hm.pick [3, 4, 5, 6, 7, 8] (by decide) rfl) hkid2) hb) rfl rfl rfl ?_
          rintro ⟨⟨vc2, vr2, vfol2, vl2, vs2, F2⟩, va2, vb2⟩ hx2
          have hx2 : vs2.length = p2.follow.length := hx2
          conv => arg 8; simp only [zA, zB, zC, zD, zE, zF, zG, zH, zI, rowS, ret, id_eq, nodeSp, mkL]
          conv => arg 7; simp only [nodeSp]
          refine TW_on (sub_pick [0] (by decide) rfl) ?_
          refine TW_one rfl (TL_new rfl fun g7 => (TW_on (sub_pick [0] (by decide) rfl) ?_))
          refine TW_one rfl (TL_slv (i := 3) rfl fun _ qa1 => TL_slv (i := 4) rfl fun _ qb1 => TL_storeB (i := 13) (cs' := #[.bool e1, va1, vb1]) rfl rfl rfl rfl (by simp only [List.all_cons, List.all_nil, qa1, qb1]; rfl) rfl (TW_on (sub_pick [0] (by decide) rfl) ?_))
          repeat (first
            | ((first | refine TW_plain rfl rfl ?_ | refine TW_gmet rfl rfl rfl rfl ?_); first | refine TN_val (qp rfl) rfl rfl ?_ | refine TN_val (qlen Und.eq rfl) rfl rfl ?_ | refine TN_val (qfld FldC.fld rfl rfl) rfl rfl ?_ | refine TN_val (rr_nilc rfl) rfl rfl ?_ | refine TN_val (rr_eql rfl rfl (qT (by omega))) rfl rfl ?_ | refine TN_val (rr_eql rfl rfl (qF (by omega))) rfl rfl ?_)
            | refine TW_skip rfl rfl rfl rfl rfl rfl rfl ?_ | refine TW_done ?_)
          refine TW_one rfl (TL_slv (i := 11) rfl fun _ qa2 => TL_slv (i := 12) rfl fun _ qb2 => TL_storeB (i := 2) (cs' := #[.bool e2, va2, vb2]) rfl rfl rfl rfl (by simp only [List.all_cons, List.all_nil, qa2, qb2]; rfl) rfl (TW_on (sub_pick [0] (by decide) rfl) ?_))
          repeat (first
            | ((first | refine TW_plain rfl rfl ?_ | refine TW_gmet rfl rfl rfl rfl ?_); first | refine TN_val (qp rfl) rfl rfl ?_ | refine TN_val (qlen Und.eq rfl) rfl rfl ?_ | refine TN_val (qfld FldC.fld rfl rfl) rfl rfl ?_ | refine TN_val (rr_nilc rfl) rfl rfl ?_ | refine TN_val (rr_eql rfl rfl (qT (by omega))) rfl rfl ?_ | refine TN_val (rr_eql rfl rfl (qF (by omega))) rfl rfl ?_)
            | refine TW_skip rfl rfl rfl rfl rfl rfl rfl ?_ | refine TW_done ?_)
          refine E_pick [5, 6, 7, 8, 9, 10, 3, 4, 11, 12, 1, 13, 2] (by decide) rfl ?_
          exact E_mid (⟨vc2, vr2, vfol2, vl2, vs2, F2⟩, va1, vb1, va2, vb2, g7, g8) hx2 (by repeat' (first | exact True.intro | refine And.intro rfl ?_)) rfl
        · refine TL_new rfl fun g7 => (TW_on (sub_pick [0] (by decide) rfl) ?_)
          refine TW_one rfl (TL_callB [3, 4, 5, 6, 7, 8] [0, 1, 2, 9, 10, 11] (by decide) rfl rfl (he2 EntersC.en rfl rfl rfl) (fun w hm hb => hI2 ⟨vc1, vr1, vfol1, vl1, vs1, F1⟩ hx1 w _ (rex_on (hm.pick [3, 4, 5, 6, 7, 8] (by decide) rfl) hkid2) hb) rfl rfl rfl ?_)
          rintro ⟨⟨vc2, vr2, vfol2, vl2, vs2, F2⟩, va2, vb2⟩ hx2
          have hx2 : vs2.length = p2.follow.length := hx2
          conv => arg 8; simp only [zA, zB, zC, zD, zE, zF, zG, zH, zI, rowS, ret, id_eq, nodeSp, mkL]
          conv => arg 7; simp only [nodeSp]
          refine TW_on (sub_pick [0] (by decide) rfl) ?_
          refine TW_one rfl (TL_slv (i := 3) rfl fun _ qa1 => TL_slv (i := 4) rfl fun _ qb1 => TL_storeB (i := 5) (cs' := #[.bool e1, va1, vb1]) rfl rfl rfl rfl (by simp only [List.all_cons, List.all_nil, qa1, qb1]; rfl) rfl (TW_on (sub_pick [0] (by decide) rfl) ?_))
          repeat (first
            | ((first | refine TW_plain rfl rfl ?_ | refine TW_gmet rfl rfl rfl rfl ?_); first | refine TN_val (qp rfl) rfl rfl ?_ | refine TN_val (qlen Und.eq rfl) rfl rfl ?_ | refine TN_val (qfld FldC.fld rfl rfl) rfl rfl ?_ | refine TN_val (rr_nilc rfl) rfl rfl ?_ | refine TN_val (rr_eql rfl rfl (qT (by omega))) rfl rfl ?_ | refine TN_val (rr_eql rfl rfl (qF (by omega))) rfl rfl ?_)
            | refine TW_skip rfl rfl rfl rfl rfl rfl rfl ?_ | refine TW_done ?_)
          refine TW_one rfl (TL_slv (i := 12) rfl fun _ qa2 => TL_slv (i := 13) rfl fun _ qb2 => TL_storeB (i := 2) (cs' := #[.bool e2, va2, vb2]) rfl rfl rfl rfl (by simp only [List.all_cons, List.all_nil, qa2, qb2]; rfl) rfl (TW_on (sub_pick [0] (by decide) rfl) ?_))
          repeat (first
            | ((first | refine TW_plain rfl rfl ?_ | refine TW_gmet rfl rfl rfl rfl ?_); first | refine TN_val (qp rfl) rfl rfl ?_ | refine TN_val (qlen Und.eq rfl) rfl rfl ?_ | refine TN_val (qfld FldC.fld rfl rfl) rfl rfl ?_ | refine TN_val (rr_nilc rfl) rfl rfl ?_ | refine TN_val (rr_eql rfl rfl (qT (by omega))) rfl rfl ?_ | refine TN_val (rr_eql rfl rfl (qF (by omega))) rfl rfl ?_)
            | refine TW_skip rfl rfl rfl rfl rfl rfl rfl ?_ | refine TW_done ?_)
          refine E_pick [6, 7, 8, 9, 10, 11, 3, 4, 12, 13, 1, 5, 2] (by decide) rfl ?_
          exact E_mid (⟨vc2, vr2, vfol2, vl2, vs2, F2⟩, va1, vb1, va2, vb2, g7, g8) hx2 (by repeat' (first | exact True.intro | refine And.intro rfl ?_)) rfl
      · refine TL_new rfl fun g7 => (TW_on (sub_pick [6] (by decide) rfl) ?_)
        refine TW_one rfl (TL_callB [0, 1, 2, 3, 4, 5] [6, 7, 8, 9] (by decide) rfl rfl (he2 EntersC.en rfl rfl rfl) (fun w hm hb => hI1 w _ (rex_on (hm.pick [0, 1, 2, 3, 4, 5] (by decide) rfl) hkid1) hb) rfl rfl rfl ?_)
        rintro ⟨⟨vc1, vr1, vfol1, vl1, vs1, F1⟩, va1, vb1⟩ hx1
        have hx1 : vs1.length = p1.follow.length := hx1
        conv => arg 8; simp only [zA, zB, zC, zD, zE, zF, zG, zH, zI, rowS, ret, id_eq, nodeSp, mkL]
        conv => arg 7; simp only [nodeSp]
        refine TW_on (sub_pick [0] (by decide) rfl) ?_
        refine TW_one rfl (TL_callB [4, 5, 6, 7, 8, 9] [0, 1, 2, 3, 10, 11] (by decide) rfl rfl (he2 EntersC.en rfl rfl rfl) (fun w hm hb => hI2 ⟨vc1, vr1, vfol1, vl1, vs1, F1⟩ hx1 w _ (rex_on (hm.pick [4, 5, 6, 7, 8, 9] (by decide) rfl) hkid2) hb) rfl rfl rfl ?_)
        rintro ⟨⟨vc2, vr2, vfol2, vl2, vs2, F2⟩, va2, vb2⟩ hx2
        have hx2 : vs2.length = p2.follow.length := hx2
        conv => arg 8; simp only [zA, zB, zC, zD, zE, zF, zG, zH, zI, rowS, ret, id_eq, nodeSp, mkL]
        conv => arg 7; simp only [nodeSp]
        refine TW_on (sub_pick [0] (by decide) rfl) ?_
        refine TW_one rfl (TL_slv (i := 4) rfl fun _ qa1 => TL_slv (i := 5) rfl fun _ qb1 => TL_storeB (i := 3) (cs' := #[.bool e1, va1, vb1]) rfl rfl rfl rfl (by simp only [List.all_cons, List.all_nil, qa1, qb1]; rfl) rfl (TW_on (sub_pick [0] (by decide) rfl) ?_))
        repeat (first
          | ((first | refine TW_plain rfl rfl ?_ | refine TW_gmet rfl rfl rfl rfl ?_); first | refine TN_val (qp rfl) rfl rfl ?_ | refine TN_val (qlen Und.eq rfl) rfl rfl ?_ | refine TN_val (qfld FldC.fld rfl rfl) rfl rfl ?_ | refine TN_val (rr_nilc rfl) rfl rfl ?_ | refine TN_val (rr_eql rfl rfl (qT (by omega))) rfl rfl ?_ | refine TN_val (rr_eql rfl rfl (qF (by omega))) rfl rfl ?_)
          | refine TW_skip rfl rfl rfl rfl rfl rfl rfl ?_ | refine TW_done ?_)
        refine TW_one rfl (TL_slv (i := 12) rfl fun _ qa2 => TL_slv (i := 13) rfl fun _ qb2 => TL_storeB (i := 2) (cs' := #[.bool e2, va2, vb2]) rfl rfl rfl rfl (by simp only [List.all_cons, List.all_nil, qa2, qb2]; rfl) rfl (TW_on (sub_pick [0] (by decide) rfl) ?_))
        repeat (first
          | ((first | refine TW_plain rfl rfl ?_ | refine TW_gmet rfl rfl rfl rfl ?_); first | refine TN_val (qp rfl) rfl rfl ?_ | refine TN_val (qlen Und.eq rfl) rfl rfl ?_ | refine TN_val (qfld FldC.fld rfl rfl) rfl rfl ?_ | refine TN_val (rr_nilc rfl) rfl rfl ?_ | refine TN_val (rr_eql rfl rfl (qT (by omega))) rfl rfl ?_ | refine TN_val (rr_eql rfl rfl (qF (by omega))) rfl rfl ?_)
          | refine TW_skip rfl rfl rfl rfl rfl rfl rfl ?_ | refine TW_done ?_)
        refine E_pick [6, 7, 8, 9, 10, 11, 4, 5, 12, 13, 1, 3, 2] (by decide) rfl ?_
        exact E_mid (⟨vc2, vr2, vfol2, vl2, vs2, F2⟩, va1, vb1, va2, vb2, g7, g8) hx2 (by repeat' (first | exact True.intro | refine And.intro rfl ?_)) rfl
  clear hI1 hI2 hat1 hat2
  rintro ⟨⟨vc, vr, vfol, vl, vs, F⟩, va1, vb1, va2, vb2, g7, g8⟩ hx2
  have hx2 : vs.length = p2.follow.length := hx2
  dsimp only
  conv => arg 7; simp only [zA, zB, zC, zD, zE, zF, zG, zH, zI, rowS, ret, id_eq, mkL]
  have hl1 := ris_len hp4
  have hl2 := ris_len hp5
  have hl3 := ris_len kp4
  have hl4 := ris_len kp5
  repeat (first
    | refine qv rfl (qp rfl) rfl rfl ?_ | refine TL_nil ?_ | refine T_seq ?_ | refine T_region ?_ | refine qcT rfl ?_ | refine qcF rfl ?_ | refine T_skip ?_
    | refine T_ret ?_ | refine T_block ?_ | refine E_then ?_ | refine E_thenR ?_ | refine E_blockN ?_ | refine E_blockR ?_
    | refine qs rfl rfl rfl rfl rfl rfl ?_
    | ((try refine qg rfl rfl rfl ?_); first | refine qv rfl (qp rfl) rfl rfl ?_ | refine qv rfl (rr_load1 (v := vb1) TyC.ty rfl (at_blk (i := 11) rfl rfl)) rfl rfl ?_ | refine qv rfl (rr_load1 (v := va2) TyC.ty rfl (at_blk (i := 12) rfl rfl)) rfl rfl ?_ | refine qv rfl (qlen Und.eq rfl) rfl rfl ?_ | refine qv rfl (qfld FldC.fld rfl rfl) rfl rfl ?_ | refine qv rfl (rr_nilc rfl) rfl rfl ?_ | refine qv rfl (rr_eql rfl rfl (qT (by omega))) rfl rfl ?_ | refine qv rfl (rr_eql rfl rfl (qF (by omega))) rfl rfl ?_))
  refine TL_callB [0, 3, 4, 7, 8] [1, 2, 5, 6, 9, 10, 11, 12] (by decide) rfl rfl (he3 EntersC.en rfl rfl rfl rfl) (fun w hm hb => behind_calls g vc vr vf vfol vl ve rule vb1 va2 vs F p2.follow last1 first2 w _ hx2 (by rw [kp1.follow]; omega) (by rw [kp1.follow]; exact kp1.ris) (by rw [kp1.follow]; exact ris_mono hp5 kp2) (by rw [kp1.follow]; exact kp4) hb) rfl rfl rfl ?_
  rintro ⟨vs', F'⟩ hx3
  have hx3 : vs'.length = p2.follow.length := hx3
  conv => arg 8; simp only [zA, zB, zC, zD, zE, zF, zG, zH, zI, rowS, ret, id_eq, behSp]
  refine TL_rowv (i := 3) rfl fun ba ca hva _ _ => ?_
  refine TL_rowv (i := 4) rfl fun bb cb hvb _ _ => ?_
  subst hva hvb
  cases e1 with
  | true =>
    cases e2 with
    | true =>
      repeat (first
        | refine qv rfl (qp rfl) rfl rfl ?_ | refine TL_nil ?_ | refine T_seq ?_ | refine T_region ?_ | refine qcT rfl ?_ | refine qcF rfl ?_ | refine T_skip ?_
        | refine T_ret ?_ | refine T_block ?_ | refine E_then ?_ | refine E_thenR ?_ | refine E_blockN ?_ | refine E_blockR ?_
        | refine qs rfl rfl rfl rfl rfl rfl ?_
        | ((try refine qg rfl rfl rfl ?_); first | refine qv rfl (qp rfl) rfl rfl ?_ | refine qv rfl (rr_load1 TyC.ty rfl (at_blk (i := 6) rfl rfl)) rfl rfl ?_ | refine qv rfl (rr_load1 TyC.ty rfl (at_blk (i := 7) rfl rfl)) rfl rfl ?_ | refine qv rfl (rr_build rfl (build_shpA _ _ _ _ _ _ _)) rfl rfl ?_ | refine qv rfl (qlen Und.eq rfl) rfl rfl ?_ | refine qv rfl (qfld FldC.fld rfl rfl) rfl rfl ?_ | refine qv rfl (rr_nilc rfl) rfl rfl ?_ | refine qv rfl (rr_eql rfl rfl (qT (by omega))) rfl rfl ?_ | refine qv rfl (rr_eql rfl rfl (qF (by omega))) rfl rfl ?_))
      refine TL_new rfl fun g11 => ?_
      conv => arg 8; simp only [zA, zB, zC, zD, zE, zF, zG, zH, zI, rowS, ret, id_eq]
      refine TL_storeB (i := 13) (cs' := #[.bool true, .slice ba first1.length ca, .slice bb last2.length cb]) rfl rfl rfl rfl rfl rfl ?_
      conv => arg 8; simp only [zA, zB, zC, zD, zE, zF, zG, zH, zI, rowS, ret, id_eq]
      repeat (first
        | refine qv rfl (qp rfl) rfl rfl ?_ | refine TL_nil ?_ | refine T_seq ?_ | refine T_region ?_ | refine qcT rfl ?_ | refine qcF rfl ?_ | refine T_skip ?_
        | refine T_ret ?_ | refine T_block ?_ | refine E_then ?_ | refine E_thenR ?_ | refine E_blockN ?_ | refine E_blockR ?_
        | refine qs rfl rfl rfl rfl rfl rfl ?_
        | ((try refine qg rfl rfl rfl ?_); first | refine qv rfl (qp rfl) rfl rfl ?_ | refine qv rfl (rr_load1 TyC.ty rfl (at_blk (i := 6) rfl rfl)) rfl rfl ?_ | refine qv rfl (rr_load1 TyC.ty rfl (at_blk (i := 7) rfl rfl)) rfl rfl ?_ | refine qv rfl (qlen Und.eq rfl) rfl rfl ?_ | refine qv rfl (qfld FldC.fld rfl rfl) rfl rfl ?_ | refine qv rfl (rr_nilc rfl) rfl rfl ?_ | refine qv rfl (rr_eql rfl rfl (qT (by omega))) rfl rfl ?_ | refine qv rfl (rr_eql rfl rfl (qF (by omega))) rfl rfl ?_))
      refine TL_call (he2 EntersC.en rfl rfl rfl) (fun w' hm => union_calls _ va2 first1 first2 w' (Sl.of_own (hm.get (i := 3) rfl)) (Sl.of_own (hm.get (i := 12) rfl)) (by omega) (by omega)) rfl rfl rfl ?_
      intro vu _
      conv => arg 8; simp only [zA, zB, zC, zD, zE, zF, zG, zH, zI, rowS, ret, id_eq, intRS]
      repeat (first
        | refine qv rfl (qp rfl) rfl rfl ?_ | refine TL_nil ?_ | refine T_seq ?_ | refine T_region ?_ | refine qcT rfl ?_ | refine qcF rfl ?_ | refine T_skip ?_
        | refine T_ret ?_ | refine T_block ?_ | refine E_then ?_ | refine E_thenR ?_ | refine E_blockN ?_ | refine E_blockR ?_
        | refine qs rfl rfl rfl rfl rfl rfl ?_
        | ((try refine qg rfl rfl rfl ?_); first | refine qv rfl (qp rfl) rfl rfl ?_ | refine qv rfl (qlen Und.eq rfl) rfl rfl ?_ | refine qv rfl (qfld FldC.fld rfl rfl) rfl rfl ?_ | refine qv rfl (rr_nilc rfl) rfl rfl ?_ | refine qv rfl (rr_eql rfl rfl (qT (by omega))) rfl rfl ?_ | refine qv rfl (rr_eql rfl rfl (qF (by omega))) rfl rfl ?_))
      refine TL_slv (i := 14) rfl fun qu1 qu2 => TL_store1 (i := 13) rfl rfl rfl qu1 qu2 rfl ?_
      conv => arg 8; simp only [zA, zB, zC, zD, zE, zF, zG, zH, zI, rowS, ret, id_eq]
      repeat (first
        | refine qv rfl (qp rfl) rfl rfl ?_ | refine TL_nil ?_ | refine T_seq ?_ | refine T_region ?_ | refine qcT rfl ?_ | refine qcF rfl ?_ | refine T_skip ?_
        | refine T_ret ?_ | refine T_block ?_ | refine E_then ?_ | refine E_thenR ?_ | refine E_blockN ?_ | refine E_blockR ?_
        | refine qs rfl rfl rfl rfl rfl rfl ?_
        | ((try refine qg rfl rfl rfl ?_); first | refine qv rfl (qp rfl) rfl rfl ?_ | refine qv rfl (rr_load1 TyC.ty rfl (at_blk (i := 6) rfl rfl)) rfl rfl ?_ | refine qv rfl (rr_load1 TyC.ty rfl (at_blk (i := 7) rfl rfl)) rfl rfl ?_ | refine qv rfl (qlen Und.eq rfl) rfl rfl ?_ | refine qv rfl (qfld FldC.fld rfl rfl) rfl rfl ?_ | refine qv rfl (rr_nilc rfl) rfl rfl ?_ | refine qv rfl (rr_eql rfl rfl (qT (by omega))) rfl rfl ?_ | refine qv rfl (rr_eql rfl rfl (qF (by omega))) rfl rfl ?_))
      refine TL_call (he2 EntersC.en rfl rfl rfl) (fun w' hm => union_calls vb1 _ last1 last2 w' (Sl.of_own (hm.get (i := 11) rfl)) (Sl.of_own (hm.get (i := 4) rfl)) (by omega) (by omega)) rfl rfl rfl ?_
      intro vu2 _
      conv => arg 8; simp only [zA, zB, zC, zD, zE, zF, zG, zH, zI, rowS, ret, id_eq, intRS]
      repeat (first
        | refine qv rfl (qp rfl) rfl rfl ?_ | refine TL_nil ?_ | refine T_seq ?_ | refine T_region ?_ | refine qcT rfl ?_ | refine qcF rfl ?_ | refine T_skip ?_
        | refine T_ret ?_ | refine T_block ?_ | refine E_then ?_ | refine E_thenR ?_ | refine E_blockN ?_ | refine E_blockR ?_
        | refine qs rfl rfl rfl rfl rfl rfl ?_
        | ((try refine qg rfl rfl rfl ?_); first | refine qv rfl (qp rfl) rfl rfl ?_ | refine qv rfl (qlen Und.eq rfl) rfl rfl ?_ | refine qv rfl (qfld FldC.fld rfl rfl) rfl rfl ?_ | refine qv rfl (rr_nilc rfl) rfl rfl ?_ | refine qv rfl (rr_eql rfl rfl (qT (by omega))) rfl rfl ?_ | refine qv rfl (rr_eql rfl rfl (qF (by omega))) rfl rfl ?_))
      refine TL_slv (i := 15) rfl fun qv1 qv2 => TL_store1 (i := 13) rfl rfl rfl qv1 qv2 rfl ?_
      conv => arg 8; simp only [zA, zB, zC, zD, zE, zF, zG, zH, zI, rowS, ret, id_eq]
      repeat (first
        | refine qv rfl (qp rfl) rfl rfl ?_ | refine TL_nil ?_ | refine T_seq ?_ | refine T_region ?_ | refine qcT rfl ?_ | refine qcF rfl ?_ | refine T_skip ?_
        | refine T_ret ?_ | refine T_block ?_ | refine E_then ?_ | refine E_thenR ?_ | refine E_blockN ?_ | refine E_blockR ?_
        | refine qs rfl rfl rfl rfl rfl rfl ?_
        | ((try refine qg rfl rfl rfl ?_); first | refine qv rfl (qp rfl) rfl rfl ?_ | refine qv rfl (rr_loadB (i := 13) TyC.ty rfl rfl rfl) rfl rfl ?_ | refine qv rfl (rr_load1 TyC.ty rfl (at_blk (i := 6) rfl rfl)) rfl rfl ?_ | refine qv rfl (rr_load1 TyC.ty rfl (at_blk (i := 7) rfl rfl)) rfl rfl ?_ | refine qv rfl (qlen Und.eq rfl) rfl rfl ?_ | refine qv rfl (qfld FldC.fld rfl rfl) rfl rfl ?_ | refine qv rfl (rr_nilc rfl) rfl rfl ?_ | refine qv rfl (rr_eql rfl rfl (qT (by omega))) rfl rfl ?_ | refine qv rfl (rr_eql rfl rfl (qF (by omega))) rfl rfl ?_))
      refine TL_storeB (i := 5) (cs' := #[.bool true, vu, vu2]) rfl rfl rfl rfl (by simp only [List.all_cons, List.all_nil, qu2, qv2]; rfl) rfl ?_
      conv => arg 8; simp only [zA, zB, zC, zD, zE, zF, zG, zH, zI, rowS, ret, id_eq]
      repeat (first
        | refine qv rfl (qp rfl) rfl rfl ?_ | refine TL_nil ?_ | refine T_seq ?_ | refine T_region ?_ | refine qcT rfl ?_ | refine qcF rfl ?_ | refine T_skip ?_
        | refine T_ret ?_ | refine T_block ?_ | refine E_then ?_ | refine E_thenR ?_ | refine E_blockN ?_ | refine E_blockR ?_
        | refine qs rfl rfl rfl rfl rfl rfl ?_
        | ((try refine qg rfl rfl rfl ?_); first | refine qv rfl (qp rfl) rfl rfl ?_ | refine qv rfl (qlen Und.eq rfl) rfl rfl ?_ | refine qv rfl (qfld FldC.fld rfl rfl) rfl rfl ?_ | refine qv rfl (rr_nilc rfl) rfl rfl ?_ | refine qv rfl (rr_eql rfl rfl (qT (by omega))) rfl rfl ?_ | refine qv rfl (rr_eql rfl rfl (qF (by omega))) rfl rfl ?_))
      refine E_retc1 (i := 5) rfl rfl rfl rfl fun w hm => ?_
      exact hm.meetsB (S := nodeSp g vf ve rule (⟨true, uni first1 first2, uni last1 last2⟩, { p2 with follow := behindF p2.follow last1 first2 })) (⟨vc, vr, vfol, vl, vs', F'⟩, vu, vu2) (by show vs'.length = (behindF p2.follow last1 first2).length; rw [behind_len]; exact hx3) [8, 0, 1, 9, 10, 2, 14, 15] (by decide) rfl
    | false =>
      repeat (first
        | refine qv rfl (qp rfl) rfl rfl ?_ | refine TL_nil ?_ | refine T_seq ?_ | refine T_region ?_ | refine qcT rfl ?_ | refine qcF rfl ?_ | refine T_skip ?_
        | refine T_ret ?_ | refine T_block ?_ | refine E_then ?_ | refine E_thenR ?_ | refine E_blockN ?_ | refine E_blockR ?_
        | refine qs rfl rfl rfl rfl rfl rfl ?_
        | ((try refine qg rfl rfl rfl ?_); first | refine qv rfl (qp rfl) rfl rfl ?_ | refine qv rfl (rr_load1 TyC.ty rfl (at_blk (i := 6) rfl rfl)) rfl rfl ?_ | refine qv rfl (rr_load1 TyC.ty rfl (at_blk (i := 7) rfl rfl)) rfl rfl ?_ | refine qv rfl (rr_build rfl (build_shpA _ _ _ _ _ _ _)) rfl rfl ?_ | refine qv rfl (qlen Und.eq rfl) rfl rfl ?_ | refine qv rfl (qfld FldC.fld rfl rfl) rfl rfl ?_ | refine qv rfl (rr_nilc rfl) rfl rfl ?_ | refine qv rfl (rr_eql rfl rfl (qT (by omega))) rfl rfl ?_ | refine qv rfl (rr_eql rfl rfl (qF (by omega))) rfl rfl ?_))
      refine TL_new rfl fun g11 => ?_
      conv => arg 8; simp only [zA, zB, zC, zD, zE, zF, zG, zH, zI, rowS, ret, id_eq]
      refine TL_storeB (i := 13) (cs' := #[.bool false, .slice ba first1.length ca, .slice bb last2.length cb]) rfl rfl rfl rfl rfl rfl ?_
      conv => arg 8; simp only [zA, zB, zC, zD, zE, zF, zG, zH, zI, rowS, ret, id_eq]
      repeat (first
        | refine qv rfl (qp rfl) rfl rfl ?_ | refine TL_nil ?_ | refine T_seq ?_ | refine T_region ?_ | refine qcT rfl ?_ | refine qcF rfl ?_ | refine T_skip ?_
        | refine T_ret ?_ | refine T_block ?_ | refine E_then ?_ | refine E_thenR ?_ | refine E_blockN ?_ | refine E_blockR ?_
        | refine qs rfl rfl rfl rfl rfl rfl ?_
        | ((try refine qg rfl rfl rfl ?_); first | refine qv rfl (qp rfl) rfl rfl ?_ | refine qv rfl (rr_load1 TyC.ty rfl (at_blk (i := 6) rfl rfl)) rfl rfl ?_ | refine qv rfl (rr_load1 TyC.ty rfl (at_blk (i := 7) rfl rfl)) rfl rfl ?_ | refine qv rfl (qlen Und.eq rfl) rfl rfl ?_ | refine qv rfl (qfld FldC.fld rfl rfl) rfl rfl ?_ | refine qv rfl (rr_nilc rfl) rfl rfl ?_ | refine qv rfl (rr_eql rfl rfl (qT (by omega))) rfl rfl ?_ | refine qv rfl (rr_eql rfl rfl (qF (by omega))) rfl rfl ?_))
      refine TL_call (he2 EntersC.en rfl rfl rfl) (fun w' hm => union_calls _ va2 first1 first2 w' (Sl.of_own (hm.get (i := 3) rfl)) (Sl.of_own (hm.get (i := 12) rfl)) (by omega) (by omega)) rfl rfl rfl ?_
      intro vu _
      conv => arg 8; simp only [zA, zB, zC, zD, zE, zF, zG, zH, zI, rowS, ret, id_eq, intRS]
      repeat (first
        | refine qv rfl (qp rfl) rfl rfl ?_ | refine TL_nil ?_ | refine T_seq ?_ | refine T_region ?_ | refine qcT rfl ?_ | refine qcF rfl ?_ | refine T_skip ?_
        | refine T_ret ?_ | refine T_block ?_ | refine E_then ?_ | refine E_thenR ?_ | refine E_blockN ?_ | refine E_blockR ?_
        | refine qs rfl rfl rfl rfl rfl rfl ?_
        | ((try refine qg rfl rfl rfl ?_); first | refine qv rfl (qp rfl) rfl rfl ?_ | refine qv rfl (qlen Und.eq rfl) rfl rfl ?_ | refine qv rfl (qfld FldC.fld rfl rfl) rfl rfl ?_ | refine qv rfl (rr_nilc rfl) rfl rfl ?_ | refine qv rfl (rr_eql rfl rfl (qT (by omega))) rfl rfl ?_ | refine qv rfl (rr_eql rfl rfl (qF (by omega))) rfl rfl ?_))
      refine TL_slv (i := 14) rfl fun qu1 qu2 => TL_store1 (i := 13) rfl rfl rfl qu1 qu2 rfl ?_
      conv => arg 8; simp only [zA, zB, zC, zD, zE, zF, zG, zH, zI, rowS, ret, id_eq]
      repeat (first
        | refine qv rfl (qp rfl) rfl rfl ?_ | refine TL_nil ?_ | refine T_seq ?_ | refine T_region ?_ | refine qcT rfl ?_ | refine qcF rfl ?_ | refine T_skip ?_
        | refine T_ret ?_ | refine T_block ?_ | refine E_then ?_ | refine E_thenR ?_ | refine E_blockN ?_ | refine E_blockR ?_
        | refine qs rfl rfl rfl rfl rfl rfl ?_
        | ((try refine qg rfl rfl rfl ?_); first | refine qv rfl (qp rfl) rfl rfl ?_ | refine qv rfl (rr_loadB (i := 13) TyC.ty rfl rfl rfl) rfl rfl ?_ | refine qv rfl (rr_load1 TyC.ty rfl (at_blk (i := 6) rfl rfl)) rfl rfl ?_ | refine qv rfl (rr_load1 TyC.ty rfl (at_blk (i := 7) rfl rfl)) rfl rfl ?_ | refine qv rfl (qlen Und.eq rfl) rfl rfl ?_ | refine qv rfl (qfld FldC.fld rfl rfl) rfl rfl ?_ | refine qv rfl (rr_nilc rfl) rfl rfl ?_ | refine qv rfl (rr_eql rfl rfl (qT (by omega))) rfl rfl ?_ | refine qv rfl (rr_eql rfl rfl (qF (by omega))) rfl rfl ?_))
      refine TL_storeB (i := 5) (cs' := #[.bool false, vu, .slice bb last2.length cb]) rfl rfl rfl rfl (by simp only [List.all_cons, List.all_nil, qu2]; rfl) rfl ?_
      conv => arg 8; simp only [zA, zB, zC, zD, zE, zF, zG, zH, zI, rowS, ret, id_eq]
      repeat (first
        | refine qv rfl (qp rfl) rfl rfl ?_ | refine TL_nil ?_ | refine T_seq ?_ | refine T_region ?_ | refine qcT rfl ?_ | refine qcF rfl ?_ | refine T_skip ?_
        | refine T_ret ?_ | refine T_block ?_ | refine E_then ?_ | refine E_thenR ?_ | refine E_blockN ?_ | refine E_blockR ?_
        | refine qs rfl rfl rfl rfl rfl rfl ?_
        | ((try refine qg rfl rfl rfl ?_); first | refine qv rfl (qp rfl) rfl rfl ?_ | refine qv rfl (qlen Und.eq rfl) rfl rfl ?_ | refine qv rfl (qfld FldC.fld rfl rfl) rfl rfl ?_ | refine qv rfl (rr_nilc rfl) rfl rfl ?_ | refine qv rfl (rr_eql rfl rfl (qT (by omega))) rfl rfl ?_ | refine qv rfl (rr_eql rfl rfl (qF (by omega))) rfl rfl ?_))
      refine E_retc1 (i := 5) rfl rfl rfl rfl fun w hm => ?_
      exact hm.meetsB (S := nodeSp g vf ve rule (⟨false, uni first1 first2, last2⟩, { p2 with follow := behindF p2.follow last1 first2 })) (⟨vc, vr, vfol, vl, vs', F'⟩, vu, .slice bb last2.length cb) (by show vs'.length = (behindF p2.follow last1 first2).length; rw [behind_len]; exact hx3) [8, 0, 1, 9, 10, 2, 14, 4] (by decide) rfl
  | false =>
    cases e2 with
    | true =>
      repeat (first
        | refine qv rfl (qp rfl) rfl rfl ?_ | refine TL_nil ?_ | refine T_seq ?_ | refine T_region ?_ | refine qcT rfl ?_ | refine qcF rfl ?_ | refine T_skip ?_
        | refine T_ret ?_ | refine T_block ?_ | refine E_then ?_ | refine E_thenR ?_ | refine E_blockN ?_ | refine E_blockR ?_
        | refine qs rfl rfl rfl rfl rfl rfl ?_
        | ((try refine qg rfl rfl rfl ?_); first | refine qv rfl (qp rfl) rfl rfl ?_ | refine qv rfl (rr_load1 TyC.ty rfl (at_blk (i := 6) rfl rfl)) rfl rfl ?_ | refine qv rfl (rr_load1 TyC.ty rfl (at_blk (i := 7) rfl rfl)) rfl rfl ?_ | refine qv rfl (rr_build rfl (build_shpA _ _ _ _ _ _ _)) rfl rfl ?_ | refine qv rfl (qlen Und.eq rfl) rfl rfl ?_ | refine qv rfl (qfld FldC.fld rfl rfl) rfl rfl ?_ | refine qv rfl (rr_nilc rfl) rfl rfl ?_ | refine qv rfl (rr_eql rfl rfl (qT (by omega))) rfl rfl ?_ | refine qv rfl (rr_eql rfl rfl (qF (by omega))) rfl rfl ?_))
      refine TL_new rfl fun g11 => ?_
      conv => arg 8; simp only [zA, zB, zC, zD, zE, zF, zG, zH, zI, rowS, ret, id_eq]
      refine TL_storeB (i := 13) (cs' := #[.bool false, .slice ba first1.length ca, .slice bb last2.length cb]) rfl rfl rfl rfl rfl rfl ?_
      conv => arg 8; simp only [zA, zB, zC, zD, zE, zF, zG, zH, zI, rowS, ret, id_eq]
      repeat (first
        | refine qv rfl (qp rfl) rfl rfl ?_ | refine TL_nil ?_ | refine T_seq ?_ | refine T_region ?_ | refine qcT rfl ?_ | refine qcF rfl ?_ | refine T_skip ?_
        | refine T_ret ?_ | refine T_block ?_ | refine E_then ?_ | refine E_thenR ?_ | refine E_blockN ?_ | refine E_blockR ?_
        | refine qs rfl rfl rfl rfl rfl rfl ?_
        | ((try refine qg rfl rfl rfl ?_); first | refine qv rfl (qp rfl) rfl rfl ?_ | refine qv rfl (rr_load1 TyC.ty rfl (at_blk (i := 6) rfl rfl)) rfl rfl ?_ | refine qv rfl (rr_load1 TyC.ty rfl (at_blk (i := 7) rfl rfl)) rfl rfl ?_ | refine qv rfl (qlen Und.eq rfl) rfl rfl ?_ | refine qv rfl (qfld FldC.fld rfl rfl) rfl rfl ?_ | refine qv rfl (rr_nilc rfl) rfl rfl ?_ | refine qv rfl (rr_eql rfl rfl (qT (by omega))) rfl rfl ?_ | refine qv rfl (rr_eql rfl rfl (qF (by omega))) rfl rfl ?_))
      refine TL_call (he2 EntersC.en rfl rfl rfl) (fun w' hm => union_calls vb1 _ last1 last2 w' (Sl.of_own (hm.get (i := 11) rfl)) (Sl.of_own (hm.get (i := 4) rfl)) (by omega) (by omega)) rfl rfl rfl ?_
      intro vu2 _
      conv => arg 8; simp only [zA, zB, zC, zD, zE, zF, zG, zH, zI, rowS, ret, id_eq, intRS]
      repeat (first
        | refine qv rfl (qp rfl) rfl rfl ?_ | refine TL_nil ?_ | refine T_seq ?_ | refine T_region ?_ | refine qcT rfl ?_ | refine qcF rfl ?_ | refine T_skip ?_
        | refine T_ret ?_ | refine T_block ?_ | refine E_then ?_ | refine E_thenR ?_ | refine E_blockN ?_ | refine E_blockR ?_
        | refine qs rfl rfl rfl rfl rfl rfl ?_
        | ((try refine qg rfl rfl rfl ?_); first | refine qv rfl (qp rfl) rfl rfl ?_ | refine qv rfl (qlen Und.eq rfl) rfl rfl ?_ | refine qv rfl (qfld FldC.fld rfl rfl) rfl rfl ?_ | refine qv rfl (rr_nilc rfl) rfl rfl ?_ | refine qv rfl (rr_eql rfl rfl (qT (by omega))) rfl rfl ?_ | refine qv rfl (rr_eql rfl rfl (qF (by omega))) rfl rfl ?_))
      refine TL_slv (i := 14) rfl fun qv1 qv2 => TL_store1 (i := 13) rfl rfl rfl qv1 qv2 rfl ?_
      conv => arg 8; simp only [zA, zB, zC, zD, zE, zF, zG, zH, zI, rowS, ret, id_eq]
      repeat (first
        | refine qv rfl (qp rfl) rfl rfl ?_ | refine TL_nil ?_ | refine T_seq ?_ | refine T_region ?_ | refine qcT rfl ?_ | refine qcF rfl ?_ | refine T_skip ?_
        | refine T_ret ?_ | refine T_block ?_ | refine E_then ?_ | refine E_thenR ?_ | refine E_blockN ?_ | refine E_blockR ?_
        | refine qs rfl rfl rfl rfl rfl rfl ?_
        | ((try refine qg rfl rfl rfl ?_); first | refine qv rfl (qp rfl) rfl rfl ?_ | refine qv rfl (rr_loadB (i := 13) TyC.ty rfl rfl rfl) rfl rfl ?_ | refine qv rfl (rr_load1 TyC.ty rfl (at_blk (i := 6) rfl rfl)) rfl rfl ?_ | refine qv rfl (rr_load1 TyC.ty rfl (at_blk (i := 7) rfl rfl)) rfl rfl ?_ | refine qv rfl (qlen Und.eq rfl) rfl rfl ?_ | refine qv rfl (qfld FldC.fld rfl rfl) rfl rfl ?_ | refine qv rfl (rr_nilc rfl) rfl rfl ?_ | refine qv rfl (rr_eql rfl rfl (qT (by omega))) rfl rfl ?_ | refine qv rfl (rr_eql rfl rfl (qF (by omega))) rfl rfl ?_))
      refine TL_storeB (i := 5) (cs' := #[.bool false, .slice ba first1.length ca, vu2]) rfl rfl rfl rfl (by simp only [List.all_cons, List.all_nil, qv2]; rfl) rfl ?_
      conv => arg 8; simp only [zA, zB, zC, zD, zE, zF, zG, zH, zI, rowS, ret, id_eq]
      repeat (first
        | refine qv rfl (qp rfl) rfl rfl ?_ | refine TL_nil ?_ | refine T_seq ?_ | refine T_region ?_ | refine qcT rfl ?_ | refine qcF rfl ?_ | refine T_skip ?_
        | refine T_ret ?_ | refine T_block ?_ | refine E_then ?_ | refine E_thenR ?_ | refine E_blockN ?_ | refine E_blockR ?_
        | refine qs rfl rfl rfl rfl rfl rfl ?_
        | ((try refine qg rfl rfl rfl ?_); first | refine qv rfl (qp rfl) rfl rfl ?_ | refine qv rfl (qlen Und.eq rfl) rfl rfl ?_ | refine qv rfl (qfld FldC.fld rfl rfl) rfl rfl ?_ | refine qv rfl (rr_nilc rfl) rfl rfl ?_ | refine qv rfl (rr_eql rfl rfl (qT (by omega))) rfl rfl ?_ | refine qv rfl (rr_eql rfl rfl (qF (by omega))) rfl rfl ?_))
      refine E_retc1 (i := 5) rfl rfl rfl rfl fun w hm => ?_
      exact hm.meetsB (S := nodeSp g vf ve rule (⟨false, first1, uni last1 last2⟩, { p2 with follow := behindF p2.follow last1 first2 })) (⟨vc, vr, vfol, vl, vs', F'⟩, .slice ba first1.length ca, vu2) (by show vs'.length = (behindF p2.follow last1 first2).length; rw [behind_len]; exact hx3) [8, 0, 1, 9, 10, 2, 3, 14] (by decide) rfl
    | false =>
      repeat (first
        | refine qv rfl (qp rfl) rfl rfl ?_ | refine TL_nil ?_ | refine T_seq ?_ | refine T_region ?_ | refine qcT rfl ?_ | refine qcF rfl ?_ | refine T_skip ?_
        | refine T_ret ?_ | refine T_block ?_ | refine E_then ?_ | refine E_thenR ?_ | refine E_blockN ?_ | refine E_blockR ?_
        | refine qs rfl rfl rfl rfl rfl rfl ?_
        | ((try refine qg rfl rfl rfl ?_); first | refine qv rfl (qp rfl) rfl rfl ?_ | refine qv rfl (rr_load1 TyC.ty rfl (at_blk (i := 6) rfl rfl)) rfl rfl ?_ | refine qv rfl (rr_load1 TyC.ty rfl (at_blk (i := 7) rfl rfl)) rfl rfl ?_ | refine qv rfl (rr_build rfl (build_shpA _ _ _ _ _ _ _)) rfl rfl ?_ | refine qv rfl (qlen Und.eq rfl) rfl rfl ?_ | refine qv rfl (qfld FldC.fld rfl rfl) rfl rfl ?_ | refine qv rfl (rr_nilc rfl) rfl rfl ?_ | refine qv rfl (rr_eql rfl rfl (qT (by omega))) rfl rfl ?_ | refine qv rfl (rr_eql rfl rfl (qF (by omega))) rfl rfl ?_))
      refine TL_new rfl fun g11 => ?_
      conv => arg 8; simp only [zA, zB, zC, zD, zE, zF, zG, zH, zI, rowS, ret, id_eq]
      refine TL_storeB (i := 13) (cs' := #[.bool false, .slice ba first1.length ca, .slice bb last2.length cb]) rfl rfl rfl rfl rfl rfl ?_
      conv => arg 8; simp only [zA, zB, zC, zD, zE, zF, zG, zH, zI, rowS, ret, id_eq]
      repeat (first
        | refine qv rfl (qp rfl) rfl rfl ?_ | refine TL_nil ?_ | refine T_seq ?_ | refine T_region ?_ | refine qcT rfl ?_ | refine qcF rfl ?_ | refine T_skip ?_
        | refine T_ret ?_ | refine T_block ?_ | refine E_then ?_ | refine E_thenR ?_ | refine E_blockN ?_ | refine E_blockR ?_
        | refine qs rfl rfl rfl rfl rfl rfl ?_
        | ((try refine qg rfl rfl rfl ?_); first | refine qv rfl (qp rfl) rfl rfl ?_ | refine qv rfl (rr_loadB (i := 13) TyC.ty rfl rfl rfl) rfl rfl ?_ | refine qv rfl (rr_load1 TyC.ty rfl (at_blk (i := 6) rfl rfl)) rfl rfl ?_ | refine qv rfl (rr_load1 TyC.ty rfl (at_blk (i := 7) rfl rfl)) rfl rfl ?_ | refine qv rfl (qlen Und.eq rfl) rfl rfl ?_ | refine qv rfl (qfld FldC.fld rfl rfl) rfl rfl ?_ | refine qv rfl (rr_nilc rfl) rfl rfl ?_ | refine qv rfl (rr_eql rfl rfl (qT (by omega))) rfl rfl ?_ | refine qv rfl (rr_eql rfl rfl (qF (by omega))) rfl rfl ?_))
      refine TL_storeB (i := 5) (cs' := #[.bool false, .slice ba first1.length ca, .slice bb last2.length cb]) rfl rfl rfl rfl rfl rfl ?_
      conv => arg 8; simp only [zA, zB, zC, zD, zE, zF, zG, zH, zI, rowS, ret, id_eq]
      repeat (first
        | refine qv rfl (qp rfl) rfl rfl ?_ | refine TL_nil ?_ | refine T_seq ?_ | refine T_region ?_ | refine qcT rfl ?_ | refine qcF rfl ?_ | refine T_skip ?_
        | refine T_ret ?_ | refine T_block ?_ | refine E_then ?_ | refine E_thenR ?_ | refine E_blockN ?_ | refine E_blockR ?_
        | refine qs rfl rfl rfl rfl rfl rfl ?_
        | ((try refine qg rfl rfl rfl ?_); first | refine qv rfl (qp rfl) rfl rfl ?_ | refine qv rfl (qlen Und.eq rfl) rfl rfl ?_ | refine qv rfl (qfld FldC.fld rfl rfl) rfl rfl ?_ | refine qv rfl (rr_nilc rfl) rfl rfl ?_ | refine qv rfl (rr_eql rfl rfl (qT (by omega))) rfl rfl ?_ | refine qv rfl (rr_eql rfl rfl (qF (by omega))) rfl rfl ?_))
      refine E_retc1 (i := 5) rfl rfl rfl rfl fun w hm => ?_
      exact hm.meetsB (S := nodeSp g vf ve rule (⟨false, first1, last2⟩, { p2 with follow := behindF p2.follow last1 first2 })) (⟨vc, vr, vfol, vl, vs', F'⟩, .slice ba first1.length ca, .slice bb last2.length cb) (by show vs'.length = (behindF p2.follow last1 first2).length; rw [behind_len]; exact hx3) [8, 0, 1, 9, 10, 2, 3, 4] (by decide) rfl
end Go.Proofs.YtndbaalenclgaaaDoor.eng

/- PlD -/
namespace Go.Proofs.YtndbaalenclgaaaDoor.eng
open Go.RowKit kit mix classL rexL placesL
theorem node_at : ∀ M, NodeAt M
  | 0 => fun e h => by have := e.size_pos; omega
  | M + 1 => fun e h g vf ve rule p x v w B hp hx hn hr hv hm => by
    cases e with
    | none => exact node_none g vf ve rule p x v w B hx hv hm
    | empty => exact node_empty g vf ve rule p x v w B hx hv hm
    | byte c => exact node_byte c g vf ve rule p x v w B hp hx (by omega) hv hm
    | star a =>
      have h : a.size + 1 ≤ M + 1 := h
      exact node_star (node_at M) a (by omega) g vf ve rule p x v w B hp hx hn hr hv hm
    | alt a b =>
      have h : a.size + b.size + 1 ≤ M + 1 := h
      exact node_alt (node_at M) a b (by omega) (by omega) g vf ve rule p x v w B hp hx hn hr hv hm
    | cat a b =>
      have h : a.size + b.size + 1 ≤ M + 1 := h
      exact node_cat (node_at M) a b (by omega) (by omega) g vf ve rule p x v w B hp hx hn hr hv hm
end Go.Proofs.YtndbaalenclgaaaDoor.eng

/- PlacesM -/
namespace Go.Proofs.YtndbaalenclgaaaDoor.placesL
open classL rexL
structure MS where
  ps : PS
  first : List Int
  empty : List Bool
def MS.zero : MS := ⟨⟨[], [], [], []⟩, [], []⟩
def markF (last : List Bool) (l : List Int) : List Bool := l.foldl (fun b x => b.set x.toNat true) last
def stepM (i : Nat) (m : MS) (e : Re) : MS :=
  ⟨{ (nodeF i e m.ps).2 with last := markF (nodeF i e m.ps).2.last (nodeF i e m.ps).1.last }, uni m.first (nodeF i e m.ps).1.first, m.empty ++ [(nodeF i e m.ps).1.empty]⟩
def loopM : Nat → MS → List Re → Int × MS
  | _, m, [] => (0, m)
  | i, m, e :: r => if 200 < (stepM i m e).ps.classes.length then (2, .zero) else loopM (i + 1) (stepM i m e) r
abbrev chkR (r : Rx) : Int := (chk r 1 0).1
/-- the first rule that is none tells the error -/
def checkM : List Rx → Int
  | [] => 0
  | r :: l => if chkR r ≠ 0 then chkR r else checkM l
structure MSOk (m : MS) : Prop where
  ps : PSOk m.ps
  first : Ris m.ps.classes.length m.first
theorem mark_len (last : List Bool) (l : List Int) : (markF last l).length = last.length := by
  unfold markF
  induction l generalizing last with
  | nil => rfl
  | cons x r ih => rw [List.foldl_cons, ih, List.length_set]
theorem mark_step (last : List Bool) (l : List Int) {k : Nat} (hk : k < l.length) : markF last (l.take (k + 1)) = (markF last (l.take k)).set l[k].toNat true := by
  unfold markF
  rw [List.take_succ_eq_append_getElem hk, List.foldl_append]; rfl
theorem zero_ok : MSOk .zero := ⟨⟨rfl, rfl, rfl, fun l h => by cases h⟩, ris_nil _⟩
theorem step_ok (i : Nat) {m : MS} (h : MSOk m) (e : Re) : MSOk (stepM i m e) ∧ (stepM i m e).ps.classes.length ≤ m.ps.classes.length + e.size := by
  obtain ⟨h1, h2, h3, h4, h5⟩ := node_ok i e m.ps h.ps
  exact ⟨⟨⟨h1.rules, h1.follow, (mark_len _ _).trans h1.last, h1.ris⟩, ris_uni (ris_mono h.first h2).2 h4.2⟩, h3⟩
theorem check_all : ∀ {l : List Rx}, checkM l = 0 → ∀ r ∈ l, chkR r = 0
  | [], _, r, hr => by cases hr
  | q :: l, h, r, hr => by
    rw [checkM] at h
    split at h
    · contradiction
    · rename_i c
      rcases List.mem_cons.1 hr with rfl | hr
      · simpa using c
      · exact check_all h r hr
end Go.Proofs.YtndbaalenclgaaaDoor.placesL

/- PlM -/
namespace Go.Proofs.YtndbaalenclgaaaDoor.eng
open Go.RowKit kit mix classL rexL placesL
theorem build_posz (w : World) : (Instr.build 28 (#[] : Array (Nat × Value))).run Tryd.prog w = .ok (.agg #[.slice none 0 0, .slice none 0 0, .slice none 0 0, .slice none 0 0, .slice none 0 0, .slice none 0 0]) w := by
  go_simp
theorem build_mkz (w : World) : (Instr.build 47 (#[] : Array (Nat × Value))).run Tryd.prog w = .ok (.agg #[.slice none 0 0, .slice none 0 0, .slice none 0 0, .slice none 0 0, .slice none 0 0, .slice none 0 0, .int .i64 0]) w := by
  go_simp
/-- what Make hands back -/
structure PIx where
  vc : Value
  vr : Value
  vf : Value
  vfol : Value
  vl : Value
  ve : Value
  vs : List Value
  F : Nat → Prop
def posL (x : PIx) (m : MS) : List Own :=
  [rowO 34 4 x.vc m.ps.classes.length (m.ps.classes.flatMap clsL), intR x.vr m.ps.rules, intR x.vf m.first, folR x.vfol x.vs, folE x.F x.vs m.ps.follow, rowO 4 1 x.vl m.ps.last.length (m.ps.last.map Value.bool), rowO 4 1 x.ve m.empty.length (m.empty.map Value.bool)]
def posC (x : PIx) : Array Value := #[x.vc, x.vr, x.vf, x.vfol, x.vl, x.ve]
def makeSp (R : Int × MS) : Spec PIx := ⟨fun x => x.vs.length = R.2.ps.follow.length, fun x => .tuple #[.agg (posC x), .int .i64 R.1], fun x => posL x R.2⟩
def nilP : PIx := ⟨.slice none 0 0, .slice none 0 0, .slice none 0 0, .slice none 0 0, .slice none 0 0, .slice none 0 0, [], fun _ => False⟩
/-- nothing, as what Make hands back -/
theorem E_zero {n : Nat} {W : Base} {Q : Exit → Act → World → Prop} {fr : Fr} {L : List Own} {e' : Exit} (h : E n W e' Q fr (L ++ posL nilP .zero)) : E n W e' Q fr L := by
  refine E_nilrow 34 4 (E_nilrow 3 1 (E_nilrow 3 1 (E_nilrow 24 1 (E_extra (folE (fun _ => False) [] []) (fun k hk => hk.elim (fun h => by cases h) id) (fun w => els_nil) (E_nilrow 4 1 (E_nilrow 4 1 ?_))))))
  simp only [List.append_assoc, List.cons_append, List.nil_append]
  exact h
theorem posn_at {vc vr vf vfol vl ve v : Value} {rule : Int} {j : Nat} (h : [vc, vr, vf, vfol, vl, ve][j]? = some v) : (mkC vc vr vf vfol vl ve rule)[0 + j]? = some v := by
  rw [Nat.zero_add]
  match j, h with
  | 0, h => exact h
  | 1, h => exact h
  | 2, h => exact h
  | 3, h => exact h
  | 4, h => exact h
  | 5, h => exact h
def boolC (b : Bool) : List Value := [.bool b]
theorem boolC_len (b : Bool) : (boolC b).length = 1 := rfl
theorem bool_flat (l : List Bool) : l.flatMap boolC = l.map Value.bool := by
  induction l with
  | nil => rfl
  | cons x r ih => rw [List.flatMap_cons, ih]; rfl
def MakeR (rs : List Rx) (R : Int × MS) : Prop :=
  ((rs.length = 0 ∨ 20 < rs.length) ∧ R = (1, .zero)) ∨ (¬ (rs.length = 0 ∨ 20 < rs.length) ∧ checkM rs ≠ 0 ∧ R = (checkM rs, .zero)) ∨
    (¬ (rs.length = 0 ∨ 20 < rs.length) ∧ checkM rs = 0 ∧ ∃ es : List Re, rs = es.map emb ∧ (∀ e ∈ es, e.size ≤ 100) ∧ R = loopM 0 .zero es)
theorem check_drop {l : List Rx} {k : Nat} (h : k < l.length) : checkM (l.drop k) = if chkR l[k] ≠ 0 then chkR l[k] else checkM (l.drop (k + 1)) := by
  rw [List.drop_eq_getElem_cons h, checkM]
set_option maxHeartbeats 16000000 in
theorem make_calls (v : Value) (rs : List Rx) (R : Int × MS) (w : World) (hv : SlF rexS (Low w) w v rs) (hR : MakeR rs R) :
    Calls Tryd.prog 4 #[v] w (Meets (makeSp R) w) := by
  obtain ⟨bk, ck, rfl, h1, h2, h3⟩ := hv
  unfold maxLen at h2
  refine enter (args := [.slice bk rs.length ck]) (n := 104) Tryd.func4 rfl rfl rfl ?_
  refine T_seq (T_region (TL_new rfl fun g2 => ?_))
  conv => arg 8; simp only [zA, zB, zC, zD, zE, zF, zG, zH, zI, rowS, ret, id_eq]
  rcases hR with ⟨c1, rfl⟩ | hR
  · by_cases c2 : rs.length = 0
    · repeat (first
        | refine qv rfl (qp rfl) rfl rfl ?_ | refine TL_nil ?_ | refine T_seq ?_ | refine T_region ?_ | refine qcT rfl ?_ | refine qcF rfl ?_ | refine T_skip ?_
        | refine T_exit ?_ | refine T_ret ?_ | refine T_block ?_ | refine E_then ?_ | refine E_thenX ?_ | refine E_thenR ?_ | refine E_blockN ?_
        | refine E_blockR ?_ | refine E_blockX ?_ | refine E_blockO rfl ?_ | refine qs rfl rfl rfl rfl rfl rfl ?_
        | ((try refine qg rfl rfl rfl ?_); first | refine qv rfl (qp rfl) rfl rfl ?_ | refine qv rfl (rr_eql (b := true) rfl rfl (decide_eq_true (by omega))) rfl rfl ?_ | refine qv rfl (rr_build rfl build_posz) rfl rfl ?_ | refine qv rfl (qlen Und.eq rfl) rfl rfl ?_ | refine qv rfl (qfld FldC.fld rfl rfl) rfl rfl ?_ | refine qv rfl (rr_nilc rfl) rfl rfl ?_ | refine qv rfl (rr_lss rfl rfl (qT (by omega))) rfl rfl ?_ | refine qv rfl (rr_lss rfl rfl (qF (by omega))) rfl rfl ?_ | refine qv rfl (rr_gtr rfl rfl (qT (by omega))) rfl rfl ?_ | refine qv rfl (rr_gtr rfl rfl (qF (by omega))) rfl rfl ?_ | refine qv rfl (rr_eql rfl rfl (qT (by omega))) rfl rfl ?_ | refine qv rfl (rr_eql rfl rfl (qF (by omega))) rfl rfl ?_ | refine qv rfl (rr_neq rfl rfl (qT (by omega))) rfl rfl ?_ | refine qv rfl (rr_neq rfl rfl (qF (by omega))) rfl rfl ?_ | refine qv rfl (rr_add64 rfl rfl (by omega) (by omega) rfl) rfl rfl ?_))
      refine TL_storeB (i := 0) rfl rfl rfl rfl rfl rfl ?_
      conv => arg 8; simp only [zA, zB, zC, zD, zE, zF, zG, zH, zI, rowS, ret, id_eq]
      repeat (first
        | refine qv rfl (qp rfl) rfl rfl ?_ | refine TL_nil ?_ | refine T_seq ?_ | refine T_region ?_ | refine qcT rfl ?_ | refine qcF rfl ?_ | refine T_skip ?_
        | refine T_exit ?_ | refine T_ret ?_ | refine T_block ?_ | refine E_then ?_ | refine E_thenX ?_ | refine E_thenR ?_ | refine E_blockN ?_
        | refine E_blockR ?_ | refine E_blockX ?_ | refine E_blockO rfl ?_ | refine qs rfl rfl rfl rfl rfl rfl ?_
        | ((try refine qg rfl rfl rfl ?_); first | refine qv rfl (qp rfl) rfl rfl ?_ | refine qv rfl (qlen Und.eq rfl) rfl rfl ?_ | refine qv rfl (qfld FldC.fld rfl rfl) rfl rfl ?_ | refine qv rfl (rr_nilc rfl) rfl rfl ?_ | refine qv rfl (rr_lss rfl rfl (qT (by omega))) rfl rfl ?_ | refine qv rfl (rr_lss rfl rfl (qF (by omega))) rfl rfl ?_ | refine qv rfl (rr_gtr rfl rfl (qT (by omega))) rfl rfl ?_ | refine qv rfl (rr_gtr rfl rfl (qF (by omega))) rfl rfl ?_ | refine qv rfl (rr_eql rfl rfl (qT (by omega))) rfl rfl ?_ | refine qv rfl (rr_eql rfl rfl (qF (by omega))) rfl rfl ?_ | refine qv rfl (rr_neq rfl rfl (qT (by omega))) rfl rfl ?_ | refine qv rfl (rr_neq rfl rfl (qF (by omega))) rfl rfl ?_ | refine qv rfl (rr_add64 rfl rfl (by omega) (by omega) rfl) rfl rfl ?_))
      refine E_zero ?_
      exact E_retc2 (i := 0) rfl rfl rfl rfl rfl fun w hm => hm.meets (S := makeSp (1, .zero)) nilP rfl [1, 2, 3, 4, 5, 6, 7] (by decide) rfl
    · have c3 : 20 < rs.length := c1.resolve_left c2
      repeat (first
        | refine qv rfl (qp rfl) rfl rfl ?_ | refine TL_nil ?_ | refine T_seq ?_ | refine T_region ?_ | refine qcT rfl ?_ | refine qcF rfl ?_ | refine T_skip ?_
        | refine T_exit ?_ | refine T_ret ?_ | refine T_block ?_ | refine E_then ?_ | refine E_thenX ?_ | refine E_thenR ?_ | refine E_blockN ?_
        | refine E_blockR ?_ | refine E_blockX ?_ | refine E_blockO rfl ?_ | refine qs rfl rfl rfl rfl rfl rfl ?_
        | ((try refine qg rfl rfl rfl ?_); first | refine qv rfl (qp rfl) rfl rfl ?_ | refine qv rfl (rr_eql (b := false) rfl rfl (decide_eq_false (by omega))) rfl rfl ?_ | refine qv rfl (rr_gtr (b := true) rfl rfl (decide_eq_true (by omega))) rfl rfl ?_ | refine qv rfl (rr_build rfl build_posz) rfl rfl ?_ | refine qv rfl (qlen Und.eq rfl) rfl rfl ?_ | refine qv rfl (qfld FldC.fld rfl rfl) rfl rfl ?_ | refine qv rfl (rr_nilc rfl) rfl rfl ?_ | refine qv rfl (rr_lss rfl rfl (qT (by omega))) rfl rfl ?_ | refine qv rfl (rr_lss rfl rfl (qF (by omega))) rfl rfl ?_ | refine qv rfl (rr_gtr rfl rfl (qT (by omega))) rfl rfl ?_ | refine qv rfl (rr_gtr rfl rfl (qF (by omega))) rfl rfl ?_ | refine qv rfl (rr_eql rfl rfl (qT (by omega))) rfl rfl ?_ | refine qv rfl (rr_eql rfl rfl (qF (by omega))) rfl rfl ?_ | refine qv rfl (rr_neq rfl rfl (qT (by omega))) rfl rfl ?_ | refine qv rfl (rr_neq rfl rfl (qF (by omega))) rfl rfl ?_ | refine qv rfl (rr_add64 rfl rfl (by omega) (by omega) rfl) rfl rfl ?_))
      refine TL_storeB (i := 0) rfl rfl rfl rfl rfl rfl ?_
      conv => arg 8; simp only [zA, zB, zC, zD, zE, zF, zG, zH, zI, rowS, ret, id_eq]
      repeat (first
        | refine qv rfl (qp rfl) rfl rfl ?_ | refine TL_nil ?_ | refine T_seq ?_ | refine T_region ?_ | refine qcT rfl ?_ | refine qcF rfl ?_ | refine T_skip ?_
        | refine T_exit ?_ | refine T_ret ?_ | refine T_block ?_ | refine E_then ?_ | refine E_thenX ?_ | refine E_thenR ?_ | refine E_blockN ?_
        | refine E_blockR ?_ | refine E_blockX ?_ | refine E_blockO rfl ?_ | refine qs rfl rfl rfl rfl rfl rfl ?_
        | ((try refine qg rfl rfl rfl ?_); first | refine qv rfl (qp rfl) rfl rfl ?_ | refine qv rfl (qlen Und.eq rfl) rfl rfl ?_ | refine qv rfl (qfld FldC.fld rfl rfl) rfl rfl ?_ | refine qv rfl (rr_nilc rfl) rfl rfl ?_ | refine qv rfl (rr_lss rfl rfl (qT (by omega))) rfl rfl ?_ | refine qv rfl (rr_lss rfl rfl (qF (by omega))) rfl rfl ?_ | refine qv rfl (rr_gtr rfl rfl (qT (by omega))) rfl rfl ?_ | refine qv rfl (rr_gtr rfl rfl (qF (by omega))) rfl rfl ?_ | refine qv rfl (rr_eql rfl rfl (qT (by omega))) rfl rfl ?_ | refine qv rfl (rr_eql rfl rfl (qF (by omega))) rfl rfl ?_ | refine qv rfl (rr_neq rfl rfl (qT (by omega))) rfl rfl ?_ | refine qv rfl (rr_neq rfl rfl (qF (by omega))) rfl rfl ?_ | refine qv rfl (rr_add64 rfl rfl (by omega) (by omega) rfl) rfl rfl ?_))
      refine E_zero ?_
      exact E_retc2 (i := 0) rfl rfl rfl rfl rfl fun w hm => hm.meets (S := makeSp (1, .zero)) nilP rfl [1, 2, 3, 4, 5, 6, 7] (by decide) rfl
  have hlen : ¬ (rs.length = 0 ∨ 20 < rs.length) := by rcases hR with ⟨h, _⟩ | ⟨h, _⟩ <;> exact h
  repeat (first
    | refine qv rfl (qp rfl) rfl rfl ?_ | refine TL_nil ?_ | refine T_seq ?_ | refine T_region ?_ | refine qcT rfl ?_ | refine qcF rfl ?_ | refine T_skip ?_
    | refine T_exit ?_ | refine T_ret ?_ | refine T_block ?_ | refine E_then ?_ | refine E_thenX ?_ | refine E_thenR ?_ | refine E_blockN ?_
    | refine E_blockR ?_ | refine E_blockX ?_ | refine E_blockO rfl ?_ | refine qs rfl rfl rfl rfl rfl rfl ?_
    | ((try refine qg rfl rfl rfl ?_); first | refine qv rfl (qp rfl) rfl rfl ?_ | refine qv rfl (rr_eql (b := false) rfl rfl (decide_eq_false (by omega))) rfl rfl ?_ | refine qv rfl (rr_gtr (b := false) rfl rfl (decide_eq_false (by omega))) rfl rfl ?_ | refine qv rfl (qlen Und.eq rfl) rfl rfl ?_ | refine qv rfl (qfld FldC.fld rfl rfl) rfl rfl ?_ | refine qv rfl (rr_nilc rfl) rfl rfl ?_ | refine qv rfl (rr_lss rfl rfl (qT (by omega))) rfl rfl ?_ | refine qv rfl (rr_lss rfl rfl (qF (by omega))) rfl rfl ?_ | refine qv rfl (rr_gtr rfl rfl (qT (by omega))) rfl rfl ?_ | refine qv rfl (rr_gtr rfl rfl (qF (by omega))) rfl rfl ?_ | refine qv rfl (rr_eql rfl rfl (qT (by omega))) rfl rfl ?_ | refine qv rfl (rr_eql rfl rfl (qF (by omega))) rfl rfl ?_ | refine qv rfl (rr_neq rfl rfl (qT (by omega))) rfl rfl ?_ | refine qv rfl (rr_neq rfl rfl (qF (by omega))) rfl rfl ?_ | refine qv rfl (rr_add64 rfl rfl (by omega) (by omega) rfl) rfl rfl ?_))
  refine T_loop (ι := Nat) (fun k => k ≤ rs.length ∧ checkM rs = checkM (rs.drop k)) (fun k => [(0, .slice bk rs.length ck), (2, .pointer (some ⟨g2, 0, none⟩)), (22, .slice bk rs.length ck), (23, .int .i64 rs.length), (24, .int .i64 (k : Int))])
    (fun _ => [blkO g2 #[.slice none 0 0, .slice none 0 0, .slice none 0 0, .slice none 0 0, .slice none 0 0, .slice none 0 0] 28]) (fun k => rs.length - k) 0 ⟨Nat.zero_le _, rfl⟩ (by repeat' (first | exact True.intro | refine And.intro rfl ?_)) rfl ?_
  rintro k ⟨i1, i2⟩
  by_cases c6 : k < rs.length
  · obtain ⟨b, off, rfl, hF, hrd⟩ := h3 (by omega)
    obtain ⟨kb, kc, hr, hkid⟩ := rkid_at hrd c6
    have hat := fun (L : List Own) (j : Nat) (v : Value) (hj : (rexC rs[k].kind rs[k].cls (.slice kb rs[k].kids.length kc))[j]? = some v) => at_rd (L := L) hr hj
    have hck : ∀ w', Gr w w' → Calls Tryd.prog 10 #[rexV rs[k].kind rs[k].cls (.slice kb rs[k].kids.length kc)] w' (Meets (ret (.int .i64 (chkR rs[k]))) w') := fun w' hg => rexCheck_calls _ _ w' (hkid.gr hg)
    have hdr := check_drop c6
    clear h3 hrd hr
    generalize rs[k] = r at *
    repeat (first
      | refine qv rfl (qp rfl) rfl rfl ?_ | refine TL_nil ?_ | refine T_seq ?_ | refine T_region ?_ | refine qcT rfl ?_ | refine qcF rfl ?_ | refine T_skip ?_
      | refine T_exit ?_ | refine T_ret ?_ | refine T_block ?_ | refine E_then ?_ | refine E_thenX ?_ | refine E_thenR ?_ | refine E_blockN ?_
      | refine E_blockR ?_ | refine E_blockX ?_ | refine E_blockO rfl ?_ | refine qs rfl rfl rfl rfl rfl rfl ?_
      | ((try refine qg rfl rfl rfl ?_); first | refine qv rfl (qp rfl) rfl rfl ?_ | refine qv rfl (rr_idxc Und.eq TyC.ty rfl rfl c6) rfl rfl ?_ | refine qv rfl (rr_loadN TyC.ty rfl rfl (hat _)) rfl rfl ?_ | refine qv rfl (qlen Und.eq rfl) rfl rfl ?_ | refine qv rfl (qfld FldC.fld rfl rfl) rfl rfl ?_ | refine qv rfl (rr_nilc rfl) rfl rfl ?_ | refine qv rfl (rr_lss rfl rfl (qT (by omega))) rfl rfl ?_ | refine qv rfl (rr_lss rfl rfl (qF (by omega))) rfl rfl ?_ | refine qv rfl (rr_gtr rfl rfl (qT (by omega))) rfl rfl ?_ | refine qv rfl (rr_gtr rfl rfl (qF (by omega))) rfl rfl ?_ | refine qv rfl (rr_eql rfl rfl (qT (by omega))) rfl rfl ?_ | refine qv rfl (rr_eql rfl rfl (qF (by omega))) rfl rfl ?_ | refine qv rfl (rr_neq rfl rfl (qT (by omega))) rfl rfl ?_ | refine qv rfl (rr_neq rfl rfl (qF (by omega))) rfl rfl ?_ | refine qv rfl (rr_add64 rfl rfl (by omega) (by omega) rfl) rfl rfl ?_))
    refine TL_new rfl fun g5 => ?_
    conv => arg 8; simp only [zA, zB, zC, zD, zE, zF, zG, zH, zI, rowS, ret, id_eq]
    refine TL_storeB (i := 1) (cs' := (rexC r.kind r.cls (.slice kb r.kids.length kc)).toArray) rfl rfl rfl rfl rfl rfl ?_
    conv => arg 8; simp only [zA, zB, zC, zD, zE, zF, zG, zH, zI, rowS, ret, id_eq]
    repeat (first
      | refine qv rfl (qp rfl) rfl rfl ?_ | refine TL_nil ?_ | refine T_seq ?_ | refine T_region ?_ | refine qcT rfl ?_ | refine qcF rfl ?_ | refine T_skip ?_
      | refine T_exit ?_ | refine T_ret ?_ | refine T_block ?_ | refine E_then ?_ | refine E_thenX ?_ | refine E_thenR ?_ | refine E_blockN ?_
      | refine E_blockR ?_ | refine E_blockX ?_ | refine E_blockO rfl ?_ | refine qs rfl rfl rfl rfl rfl rfl ?_
      | ((try refine qg rfl rfl rfl ?_); first | refine qv rfl (qp rfl) rfl rfl ?_ | refine qv rfl (rr_loadB (i := 1) TyC.ty rfl rfl rfl) rfl rfl ?_ | refine qv rfl (qlen Und.eq rfl) rfl rfl ?_ | refine qv rfl (qfld FldC.fld rfl rfl) rfl rfl ?_ | refine qv rfl (rr_nilc rfl) rfl rfl ?_ | refine qv rfl (rr_lss rfl rfl (qT (by omega))) rfl rfl ?_ | refine qv rfl (rr_lss rfl rfl (qF (by omega))) rfl rfl ?_ | refine qv rfl (rr_gtr rfl rfl (qT (by omega))) rfl rfl ?_ | refine qv rfl (rr_gtr rfl rfl (qF (by omega))) rfl rfl ?_ | refine qv rfl (rr_eql rfl rfl (qT (by omega))) rfl rfl ?_ | refine qv rfl (rr_eql rfl rfl (qF (by omega))) rfl rfl ?_ | refine qv rfl (rr_neq rfl rfl (qT (by omega))) rfl rfl ?_ | refine qv rfl (rr_neq rfl rfl (qF (by omega))) rfl rfl ?_ | refine qv rfl (rr_add64 rfl rfl (by omega) (by omega) rfl) rfl rfl ?_))
    refine TL_call (he1 EntersC.en rfl rfl) (fun w hm => hck _ hm.below) rfl rfl rfl ?_
    intro _ _
    conv => arg 8; simp only [zA, zB, zC, zD, zE, zF, zG, zH, zI, rowS, ret, id_eq]
    by_cases c7 : chkR r = 0
    · repeat (first
        | refine qv rfl (qp rfl) rfl rfl ?_ | refine TL_nil ?_ | refine T_seq ?_ | refine T_region ?_ | refine qcT rfl ?_ | refine qcF rfl ?_ | refine T_skip ?_
        | refine T_exit ?_ | refine T_ret ?_ | refine T_block ?_ | refine E_then ?_ | refine E_thenX ?_ | refine E_thenR ?_ | refine E_blockN ?_
        | refine E_blockR ?_ | refine E_blockX ?_ | refine E_blockO rfl ?_ | refine qs rfl rfl rfl rfl rfl rfl ?_
        | ((try refine qg rfl rfl rfl ?_); first | refine qv rfl (qp rfl) rfl rfl ?_ | refine qv rfl (rr_neq (b := false) rfl rfl (decide_eq_false (by simpa using c7))) rfl rfl ?_ | refine qv rfl (qlen Und.eq rfl) rfl rfl ?_ | refine qv rfl (qfld FldC.fld rfl rfl) rfl rfl ?_ | refine qv rfl (rr_nilc rfl) rfl rfl ?_ | refine qv rfl (rr_lss rfl rfl (qT (by omega))) rfl rfl ?_ | refine qv rfl (rr_lss rfl rfl (qF (by omega))) rfl rfl ?_ | refine qv rfl (rr_gtr rfl rfl (qT (by omega))) rfl rfl ?_ | refine qv rfl (rr_gtr rfl rfl (qF (by omega))) rfl rfl ?_ | refine qv rfl (rr_eql rfl rfl (qT (by omega))) rfl rfl ?_ | refine qv rfl (rr_eql rfl rfl (qF (by omega))) rfl rfl ?_ | refine qv rfl (rr_neq rfl rfl (qT (by omega))) rfl rfl ?_ | refine qv rfl (rr_neq rfl rfl (qF (by omega))) rfl rfl ?_ | refine qv rfl (rr_add64 rfl rfl (by omega) (by omega) rfl) rfl rfl ?_))
      refine E_pick [0] (by decide) rfl ?_
      exact E_round (k + 1) ⟨by omega, by rw [i2, hdr, if_neg (by simpa using c7)]⟩ (by show rs.length - (k + 1) < rs.length - k; omega) (by repeat' (first | exact True.intro | refine And.intro rfl ?_)) rfl
    · have hne : checkM rs ≠ 0 := by rw [i2, hdr, if_pos c7]; exact c7
      rcases hR with ⟨_, _, rfl⟩ | ⟨_, h0, _⟩
      · rw [i2, hdr, if_pos c7]
        repeat (first
          | refine qv rfl (qp rfl) rfl rfl ?_ | refine TL_nil ?_ | refine T_seq ?_ | refine T_region ?_ | refine qcT rfl ?_ | refine qcF rfl ?_ | refine T_skip ?_
          | refine T_exit ?_ | refine T_ret ?_ | refine T_block ?_ | refine E_then ?_ | refine E_thenX ?_ | refine E_thenR ?_ | refine E_blockN ?_
          | refine E_blockR ?_ | refine E_blockX ?_ | refine E_blockO rfl ?_ | refine qs rfl rfl rfl rfl rfl rfl ?_
          | ((try refine qg rfl rfl rfl ?_); first | refine qv rfl (qp rfl) rfl rfl ?_ | refine qv rfl (rr_neq (b := true) rfl rfl (decide_eq_true c7)) rfl rfl ?_ | refine qv rfl (rr_build rfl build_posz) rfl rfl ?_ | refine qv rfl (qlen Und.eq rfl) rfl rfl ?_ | refine qv rfl (qfld FldC.fld rfl rfl) rfl rfl ?_ | refine qv rfl (rr_nilc rfl) rfl rfl ?_ | refine qv rfl (rr_lss rfl rfl (qT (by omega))) rfl rfl ?_ | refine qv rfl (rr_lss rfl rfl (qF (by omega))) rfl rfl ?_ | refine qv rfl (rr_gtr rfl rfl (qT (by omega))) rfl rfl ?_ | refine qv rfl (rr_gtr rfl rfl (qF (by omega))) rfl rfl ?_ | refine qv rfl (rr_eql rfl rfl (qT (by omega))) rfl rfl ?_ | refine qv rfl (rr_eql rfl rfl (qF (by omega))) rfl rfl ?_ | refine qv rfl (rr_neq rfl rfl (qT (by omega))) rfl rfl ?_ | refine qv rfl (rr_neq rfl rfl (qF (by omega))) rfl rfl ?_ | refine qv rfl (rr_add64 rfl rfl (by omega) (by omega) rfl) rfl rfl ?_))
        refine TL_storeB (i := 0) rfl rfl rfl rfl rfl rfl ?_
        conv => arg 8; simp only [zA, zB, zC, zD, zE, zF, zG, zH, zI, rowS, ret, id_eq]
        repeat (first
          | refine qv rfl (qp rfl) rfl rfl ?_ | refine TL_nil ?_ | refine T_seq ?_ | refine T_region ?_ | refine qcT rfl ?_ | refine qcF rfl ?_ | refine T_skip ?_
          | refine T_exit ?_ | refine T_ret ?_ | refine T_block ?_ | refine E_then ?_ | refine E_thenX ?_ | refine E_thenR ?_ | refine E_blockN ?_
          | refine E_blockR ?_ | refine E_blockX ?_ | refine E_blockO rfl ?_ | refine qs rfl rfl rfl rfl rfl rfl ?_
          | ((try refine qg rfl rfl rfl ?_); first | refine qv rfl (qp rfl) rfl rfl ?_ | refine qv rfl (qlen Und.eq rfl) rfl rfl ?_ | refine qv rfl (qfld FldC.fld rfl rfl) rfl rfl ?_ | refine qv rfl (rr_nilc rfl) rfl rfl ?_ | refine qv rfl (rr_lss rfl rfl (qT (by omega))) rfl rfl ?_ | refine qv rfl (rr_lss rfl rfl (qF (by omega))) rfl rfl ?_ | refine qv rfl (rr_gtr rfl rfl (qT (by omega))) rfl rfl ?_ | refine qv rfl (rr_gtr rfl rfl (qF (by omega))) rfl rfl ?_ | refine qv rfl (rr_eql rfl rfl (qT (by omega))) rfl rfl ?_ | refine qv rfl (rr_eql rfl rfl (qF (by omega))) rfl rfl ?_ | refine qv rfl (rr_neq rfl rfl (qT (by omega))) rfl rfl ?_ | refine qv rfl (rr_neq rfl rfl (qF (by omega))) rfl rfl ?_ | refine qv rfl (rr_add64 rfl rfl (by omega) (by omega) rfl) rfl rfl ?_))
        refine E_zero ?_
        exact E_retc2 (i := 0) rfl rfl rfl rfl rfl fun w hm => hm.meets (S := makeSp (chkR r, .zero)) nilP rfl [2, 3, 4, 5, 6, 7, 8] (by decide) rfl
      · exact absurd h0 hne
  · obtain rfl : k = rs.length := by omega
    have h0 : checkM rs = 0 := by rw [i2, List.drop_eq_nil_of_le (Nat.le_refl _)]; rfl
    obtain ⟨es, rfl, hsz, rfl⟩ : ∃ es : List Re, rs = es.map emb ∧ (∀ e ∈ es, e.size ≤ 100) ∧ R = loopM 0 .zero es := by
      rcases hR with ⟨_, h, _⟩ | ⟨_, _, h⟩
      · exact absurd h0 h
      · exact h
    have h20 : (List.map emb es).length ≤ 20 := by omega
    clear hR hlen i1 i2
    repeat (first
      | refine qv rfl (qp rfl) rfl rfl ?_ | refine TL_nil ?_ | refine T_seq ?_ | refine T_region ?_ | refine qcT rfl ?_ | refine qcF rfl ?_ | refine T_skip ?_
      | refine T_exit ?_ | refine T_ret ?_ | refine T_block ?_ | refine E_then ?_ | refine E_thenX ?_ | refine E_thenR ?_ | refine E_blockN ?_
      | refine E_blockR ?_ | refine E_blockX ?_ | refine E_blockO rfl ?_ | refine qs rfl rfl rfl rfl rfl rfl ?_
      | ((try refine qg rfl rfl rfl ?_); first | refine qv rfl (qp rfl) rfl rfl ?_ | refine qv rfl (rr_build rfl build_mkz) rfl rfl ?_ | refine qv rfl (qlen Und.eq rfl) rfl rfl ?_ | refine qv rfl (qfld FldC.fld rfl rfl) rfl rfl ?_ | refine qv rfl (rr_nilc rfl) rfl rfl ?_ | refine qv rfl (rr_lss rfl rfl (qT (by omega))) rfl rfl ?_ | refine qv rfl (rr_lss rfl rfl (qF (by omega))) rfl rfl ?_ | refine qv rfl (rr_gtr rfl rfl (qT (by omega))) rfl rfl ?_ | refine qv rfl (rr_gtr rfl rfl (qF (by omega))) rfl rfl ?_ | refine qv rfl (rr_eql rfl rfl (qT (by omega))) rfl rfl ?_ | refine qv rfl (rr_eql rfl rfl (qF (by omega))) rfl rfl ?_ | refine qv rfl (rr_neq rfl rfl (qT (by omega))) rfl rfl ?_ | refine qv rfl (rr_neq rfl rfl (qF (by omega))) rfl rfl ?_ | refine qv rfl (rr_add64 rfl rfl (by omega) (by omega) rfl) rfl rfl ?_))
    refine TL_box rfl rfl rfl fun g7 => ?_
    conv => arg 8; simp only [zA, zB, zC, zD, zE, zF, zG, zH, zI, rowS, ret, id_eq]
    repeat (first
      | refine qv rfl (qp rfl) rfl rfl ?_ | refine TL_nil ?_ | refine T_seq ?_ | refine T_region ?_ | refine qcT rfl ?_ | refine qcF rfl ?_ | refine T_skip ?_
      | refine T_exit ?_ | refine T_ret ?_ | refine T_block ?_ | refine E_then ?_ | refine E_thenX ?_ | refine E_thenR ?_ | refine E_blockN ?_
      | refine E_blockR ?_ | refine E_blockX ?_ | refine E_blockO rfl ?_ | refine qs rfl rfl rfl rfl rfl rfl ?_
      | ((try refine qg rfl rfl rfl ?_); first | refine qv rfl (qp rfl) rfl rfl ?_ | refine qv rfl (qlen Und.eq rfl) rfl rfl ?_ | refine qv rfl (qfld FldC.fld rfl rfl) rfl rfl ?_ | refine qv rfl (rr_nilc rfl) rfl rfl ?_ | refine qv rfl (rr_lss rfl rfl (qT (by omega))) rfl rfl ?_ | refine qv rfl (rr_lss rfl rfl (qF (by omega))) rfl rfl ?_ | refine qv rfl (rr_gtr rfl rfl (qT (by omega))) rfl rfl ?_ | refine qv rfl (rr_gtr rfl rfl (qF (by omega))) rfl rfl ?_ | refine qv rfl (rr_eql rfl rfl (qT (by omega))) rfl rfl ?_ | refine qv rfl (rr_eql rfl rfl (qF (by omega))) rfl rfl ?_ | refine qv rfl (rr_neq rfl rfl (qT (by omega))) rfl rfl ?_ | refine qv rfl (rr_neq rfl rfl (qF (by omega))) rfl rfl ?_ | refine qv rfl (rr_add64 rfl rfl (by omega) (by omega) rfl) rfl rfl ?_))
    refine T_nil 34 4 (T_nil 3 1 (T_nil 24 1 (T_extra (folE (fun _ => False) [] []) (fun k hk => hk.elim (fun h => by cases h) id) (fun w => els_nil) (T_nil 4 1 (T_nil 3 1 (T_nil 4 1 ?_))))))
    refine T_loop (ι := Nat × MS × MIx × Value × Value × Int) (fun (k, m, x, _, _, _) => k ≤ es.length ∧ loopM 0 .zero es = loopM k m (es.drop k) ∧ MSOk m ∧ m.ps.classes.length ≤ 200 ∧ x.vs.length = m.ps.follow.length ∧ m.empty.length = k) (fun (k, _, _, _, _, _) => [(2, .pointer (some ⟨g2, 0, none⟩)), (7, .pointer (some ⟨g7, 0, none⟩)), (37, .slice bk (es.map emb).length ck), (38, .int .i64 (es.map emb).length), (39, .int .i64 (k : Int))])
      (fun (_, m, x, vf, ve, rule) => [blkO g2 #[.slice none 0 0, .slice none 0 0, .slice none 0 0, .slice none 0 0, .slice none 0 0, .slice none 0 0] 28] ++ mkL g7 vf ve rule x m.ps ++ [intR vf m.first, rowO 4 1 ve m.empty.length (m.empty.map Value.bool)]) (fun (k, _, _, _, _, _) => es.length - k)
      (0, .zero, ⟨.slice none 0 0, .slice none 0 0, .slice none 0 0, .slice none 0 0, [], fun _ => False⟩, .slice none 0 0, .slice none 0 0, 0) ⟨Nat.zero_le _, rfl, zero_ok, Nat.zero_le _, rfl, rfl⟩ (by repeat' (first | exact True.intro | refine And.intro rfl ?_)) rfl ?_
    rintro ⟨k, m, ⟨vc, vr, vfol, vl, vs, F⟩, vf, ve, rule⟩ ⟨i1, i2, i3, i4, i5, i6⟩
    dsimp only at i1 i2 i3 i4 i5 i6 ⊢
    conv => arg 7; simp only [zA, zB, zC, zD, zE, zF, zG, zH, zI, rowS, ret, id_eq, mkL]
    have hml : (List.map emb es).length = es.length := List.length_map ..
    by_cases c6 : k < es.length
    · obtain ⟨b, off, rfl, hF, hrd⟩ := h3 (by omega)
      obtain ⟨kb, kc, hr, hkid⟩ := rkid_at (k := k) hrd (by omega)
      have hat := fun (L : List Own) (j : Nat) (v : Value) (hj : (rexC (es.map emb)[k].kind (es.map emb)[k].cls (.slice kb (es.map emb)[k].kids.length kc))[j]? = some v) => at_rd (L := L) hr hj
      have hke : (es.map emb)[k]'(by omega) = emb es[k] := List.getElem_map ..
      rw [hke] at hat hkid
      have hse := hsz es[k] (List.getElem_mem c6)
      rw [List.drop_eq_getElem_cons c6, loopM] at i2
      clear h3 hrd hr hke
      generalize es[k] = e at *
      have hst := step_ok k i3 e
      have hnd := node_ok k e m.ps i3.ps
      have hno := fun v w B hv hm => node_at 100 e hse g7 vf ve k m.ps ⟨vc, vr, vfol, vl, vs, F⟩ v w B i3.ps i5 (by omega) ⟨by omega, by omega⟩ hv hm
      repeat (first
        | refine qv rfl (qp rfl) rfl rfl ?_ | refine TL_nil ?_ | refine T_seq ?_ | refine T_region ?_ | refine qcT rfl ?_ | refine qcF rfl ?_ | refine T_skip ?_
        | refine T_exit ?_ | refine T_ret ?_ | refine T_block ?_ | refine E_then ?_ | refine E_thenX ?_ | refine E_thenR ?_ | refine E_blockN ?_
        | refine E_blockR ?_ | refine E_blockX ?_ | refine E_blockO rfl ?_ | refine qs rfl rfl rfl rfl rfl rfl ?_
        | ((try refine qg rfl rfl rfl ?_); first | refine qv rfl (qp rfl) rfl rfl ?_ | refine qv rfl (rr_idxc Und.eq TyC.ty rfl rfl (by omega)) rfl rfl ?_ | refine qv rfl (rr_loadN TyC.ty rfl rfl (hat _)) rfl rfl ?_ | refine qv rfl (qlen Und.eq rfl) rfl rfl ?_ | refine qv rfl (qfld FldC.fld rfl rfl) rfl rfl ?_ | refine qv rfl (rr_nilc rfl) rfl rfl ?_ | refine qv rfl (rr_lss rfl rfl (qT (by omega))) rfl rfl ?_ | refine qv rfl (rr_lss rfl rfl (qF (by omega))) rfl rfl ?_ | refine qv rfl (rr_gtr rfl rfl (qT (by omega))) rfl rfl ?_ | refine qv rfl (rr_gtr rfl rfl (qF (by omega))) rfl rfl ?_ | refine qv rfl (rr_eql rfl rfl (qT (by omega))) rfl rfl ?_ | refine qv rfl (rr_eql rfl rfl (qF (by omega))) rfl rfl ?_ | refine qv rfl (rr_neq rfl rfl (qT (by omega))) rfl rfl ?_ | refine qv rfl (rr_neq rfl rfl (qF (by omega))) rfl rfl ?_ | refine qv rfl (rr_add64 rfl rfl (by omega) (by omega) rfl) rfl rfl ?_))
      refine TL_new rfl fun g9 => ?_
      conv => arg 8; simp only [zA, zB, zC, zD, zE, zF, zG, zH, zI, rowS, ret, id_eq]
      repeat (first
        | refine qv rfl (qp rfl) rfl rfl ?_ | refine TL_nil ?_ | refine T_seq ?_ | refine T_region ?_ | refine qcT rfl ?_ | refine qcF rfl ?_ | refine T_skip ?_
        | refine T_exit ?_ | refine T_ret ?_ | refine T_block ?_ | refine E_then ?_ | refine E_thenX ?_ | refine E_thenR ?_ | refine E_blockN ?_
        | refine E_blockR ?_ | refine E_blockX ?_ | refine E_blockO rfl ?_ | refine qs rfl rfl rfl rfl rfl rfl ?_
        | ((try refine qg rfl rfl rfl ?_); first | refine qv rfl (qp rfl) rfl rfl ?_ | refine qv rfl (qlen Und.eq rfl) rfl rfl ?_ | refine qv rfl (qfld FldC.fld rfl rfl) rfl rfl ?_ | refine qv rfl (rr_nilc rfl) rfl rfl ?_ | refine qv rfl (rr_lss rfl rfl (qT (by omega))) rfl rfl ?_ | refine qv rfl (rr_lss rfl rfl (qF (by omega))) rfl rfl ?_ | refine qv rfl (rr_gtr rfl rfl (qT (by omega))) rfl rfl ?_ | refine qv rfl (rr_gtr rfl rfl (qF (by omega))) rfl rfl ?_ | refine qv rfl (rr_eql rfl rfl (qT (by omega))) rfl rfl ?_ | refine qv rfl (rr_eql rfl rfl (qF (by omega))) rfl rfl ?_ | refine qv rfl (rr_neq rfl rfl (qT (by omega))) rfl rfl ?_ | refine qv rfl (rr_neq rfl rfl (qF (by omega))) rfl rfl ?_ | refine qv rfl (rr_add64 rfl rfl (by omega) (by omega) rfl) rfl rfl ?_))
      refine TL_storeB (i := 9) (cs' := (rexC (emb e).kind (emb e).cls (.slice kb (emb e).kids.length kc)).toArray) rfl rfl rfl rfl rfl rfl ?_
      conv => arg 8; simp only [zA, zB, zC, zD, zE, zF, zG, zH, zI, rowS, ret, id_eq]
      repeat (first
        | refine qv rfl (qp rfl) rfl rfl ?_ | refine TL_nil ?_ | refine T_seq ?_ | refine T_region ?_ | refine qcT rfl ?_ | refine qcF rfl ?_ | refine T_skip ?_
        | refine T_exit ?_ | refine T_ret ?_ | refine T_block ?_ | refine E_then ?_ | refine E_thenX ?_ | refine E_thenR ?_ | refine E_blockN ?_
        | refine E_blockR ?_ | refine E_blockX ?_ | refine E_blockO rfl ?_ | refine qs rfl rfl rfl rfl rfl rfl ?_
        | ((try refine qg rfl rfl rfl ?_); first | refine qv rfl (qp rfl) rfl rfl ?_ | refine qv rfl (rr_nilc rfl) rfl rfl ?_ | refine qv rfl (qlen Und.eq rfl) rfl rfl ?_ | refine qv rfl (qfld FldC.fld rfl rfl) rfl rfl ?_ | refine qv rfl (rr_nilc rfl) rfl rfl ?_ | refine qv rfl (rr_lss rfl rfl (qT (by omega))) rfl rfl ?_ | refine qv rfl (rr_lss rfl rfl (qF (by omega))) rfl rfl ?_ | refine qv rfl (rr_gtr rfl rfl (qT (by omega))) rfl rfl ?_ | refine qv rfl (rr_gtr rfl rfl (qF (by omega))) rfl rfl ?_ | refine qv rfl (rr_eql rfl rfl (qT (by omega))) rfl rfl ?_ | refine qv rfl (rr_eql rfl rfl (qF (by omega))) rfl rfl ?_ | refine qv rfl (rr_neq rfl rfl (qT (by omega))) rfl rfl ?_ | refine qv rfl (rr_neq rfl rfl (qF (by omega))) rfl rfl ?_ | refine qv rfl (rr_add64 rfl rfl (by omega) (by omega) rfl) rfl rfl ?_))
      refine TL_store1 (i := 1) rfl rfl rfl rfl rfl rfl ?_
      conv => arg 8; simp only [zA, zB, zC, zD, zE, zF, zG, zH, zI, rowS, ret, id_eq]
      repeat (first
        | refine qv rfl (qp rfl) rfl rfl ?_ | refine TL_nil ?_ | refine T_seq ?_ | refine T_region ?_ | refine qcT rfl ?_ | refine qcF rfl ?_ | refine T_skip ?_
        | refine T_exit ?_ | refine T_ret ?_ | refine T_block ?_ | refine E_then ?_ | refine E_thenX ?_ | refine E_thenR ?_ | refine E_blockN ?_
        | refine E_blockR ?_ | refine E_blockX ?_ | refine E_blockO rfl ?_ | refine qs rfl rfl rfl rfl rfl rfl ?_
        | ((try refine qg rfl rfl rfl ?_); first | refine qv rfl (qp rfl) rfl rfl ?_ | refine qv rfl (rr_loadB (i := 9) TyC.ty rfl rfl rfl) rfl rfl ?_ | refine qv rfl (qlen Und.eq rfl) rfl rfl ?_ | refine qv rfl (qfld FldC.fld rfl rfl) rfl rfl ?_ | refine qv rfl (rr_nilc rfl) rfl rfl ?_ | refine qv rfl (rr_lss rfl rfl (qT (by omega))) rfl rfl ?_ | refine qv rfl (rr_lss rfl rfl (qF (by omega))) rfl rfl ?_ | refine qv rfl (rr_gtr rfl rfl (qT (by omega))) rfl rfl ?_ | refine qv rfl (rr_gtr rfl rfl (qF (by omega))) rfl rfl ?_ | refine qv rfl (rr_eql rfl rfl (qT (by omega))) rfl rfl ?_ | refine qv rfl (rr_eql rfl rfl (qF (by omega))) rfl rfl ?_ | refine qv rfl (rr_neq rfl rfl (qT (by omega))) rfl rfl ?_ | refine qv rfl (rr_neq rfl rfl (qF (by omega))) rfl rfl ?_ | refine qv rfl (rr_add64 rfl rfl (by omega) (by omega) rfl) rfl rfl ?_))
      refine TL_callB [1, 2, 3, 4, 5, 6] [0, 7, 8, 9] (by decide) rfl rfl (he2 EntersC.en rfl rfl rfl) (fun w hm hb => hno _ w _ (rex_on (hm.pick [1, 2, 3, 4, 5, 6] (by decide) rfl) (hkid.mono fun k hk => ⟨hk, id⟩)) hb) rfl rfl rfl ?_
      rintro ⟨⟨vc', vr', vfol', vl', vs', F'⟩, va, vb⟩ hx'
      conv => arg 8; simp only [zA, zB, zC, zD, zE, zF, zG, zH, zI, rowS, ret, id_eq, nodeSp, mkL]
      conv => arg 7; simp only [nodeSp]
      have hx' : vs'.length = (nodeF k e m.ps).2.follow.length := hx'
      unfold stepM at i2 hst
      generalize nodeF k e m.ps = R at *
      obtain ⟨⟨em, first, last⟩, p'⟩ := R
      dsimp only at i2 hst hnd hx' ⊢
      obtain ⟨n1, n2, n3, n4, n5⟩ := hnd
      have hl1 := ris_len i3.first
      have hl2 := ris_len n4
      have hl3 := ris_len n5
      refine TL_slv (i := 10) rfl fun _ qa => TL_slv (i := 11) rfl fun _ qb => TL_new rfl fun g10 => ?_
      conv => arg 8; simp only [zA, zB, zC, zD, zE, zF, zG, zH, zI, rowS, ret, id_eq]
      refine TL_storeB (i := 12) (cs' := #[.bool em, va, vb]) rfl rfl rfl rfl (by simp only [List.all_cons, List.all_nil, qa, qb]; rfl) rfl ?_
      conv => arg 8; simp only [zA, zB, zC, zD, zE, zF, zG, zH, zI, rowS, ret, id_eq]
      repeat (first
        | refine qv rfl (qp rfl) rfl rfl ?_ | refine TL_nil ?_ | refine T_seq ?_ | refine T_region ?_ | refine qcT rfl ?_ | refine qcF rfl ?_ | refine T_skip ?_
        | refine T_exit ?_ | refine T_ret ?_ | refine T_block ?_ | refine E_then ?_ | refine E_thenX ?_ | refine E_thenR ?_ | refine E_blockN ?_
        | refine E_blockR ?_ | refine E_blockX ?_ | refine E_blockO rfl ?_ | refine qs rfl rfl rfl rfl rfl rfl ?_
        | ((try refine qg rfl rfl rfl ?_); first | refine qv rfl (qp rfl) rfl rfl ?_ | refine qv rfl (qlen Und.eq rfl) rfl rfl ?_ | refine qv rfl (qfld FldC.fld rfl rfl) rfl rfl ?_ | refine qv rfl (rr_nilc rfl) rfl rfl ?_ | refine qv rfl (rr_lss rfl rfl (qT (by omega))) rfl rfl ?_ | refine qv rfl (rr_lss rfl rfl (qF (by omega))) rfl rfl ?_ | refine qv rfl (rr_gtr rfl rfl (qT (by omega))) rfl rfl ?_ | refine qv rfl (rr_gtr rfl rfl (qF (by omega))) rfl rfl ?_ | refine qv rfl (rr_eql rfl rfl (qT (by omega))) rfl rfl ?_ | refine qv rfl (rr_eql rfl rfl (qF (by omega))) rfl rfl ?_ | refine qv rfl (rr_neq rfl rfl (qT (by omega))) rfl rfl ?_ | refine qv rfl (rr_neq rfl rfl (qF (by omega))) rfl rfl ?_ | refine qv rfl (rr_add64 rfl rfl (by omega) (by omega) rfl) rfl rfl ?_))
      (repeat refine T_seq ?_)
      refine T_midq (ι := Value) (fun vf' => vf'.oneCell' = true) (fun _ => [(2, .pointer (some ⟨g2, 0, none⟩)), (7, .pointer (some ⟨g7, 0, none⟩)), (10, .pointer (some ⟨g10, 0, none⟩)), (37, .slice (some ⟨b, off, none⟩) (es.map emb).length ck), (38, .int .i64 (es.map emb).length), (39, .int .i64 (k : Int))])
        (fun vf' => [blkO g2 #[.slice none 0 0, .slice none 0 0, .slice none 0 0, .slice none 0 0, .slice none 0 0, .slice none 0 0] 28, blkO g7 (mkC vc' vr' vf' vfol' vl' ve (k : Int)) 47, rowO 34 4 vc' p'.classes.length (p'.classes.flatMap clsL), intR vr' p'.rules, folR vfol' vs', folE F' vs' p'.follow, rowO 4 1 vl' p'.last.length (p'.last.map Value.bool), intR vf' (uni m.first first), rowO 4 1 ve m.empty.length (m.empty.map Value.bool), blkO g10 #[.bool em, va, vb] 49, intR vb last]) ?_ ?_
      · refine T_ord ([blkO g10 #[.bool em, va, vb] 49]) (.calm 0 (.calm 1 (.calm 2 (.calm 3 (.calm 4 (.calm 6 (.calm 7 (.one 5 (.one 8 (.calm 9 (.calm 10 (.calm 11 (.one 12 (.done)))))))))))))) (sub_pick [12] (by decide) rfl) (by kernel_rfl) (by kernel_rfl) (by intro c a d v w h; cases d <;> exact h) ?_
        repeat (first
          | ((first | refine TW_plain rfl rfl ?_ | refine TW_gmet rfl rfl rfl rfl ?_); first | refine TN_val (qp rfl) rfl rfl ?_ | refine TN_val (rr_nilc rfl) rfl rfl ?_ | refine TN_val (rr_load1 TyC.ty rfl (at_blk (i := 0) rfl rfl)) rfl rfl ?_ | refine TN_val (qlen Und.eq rfl) rfl rfl ?_ | refine TN_val (qfld FldC.fld rfl rfl) rfl rfl ?_ | refine TN_val (rr_nilc rfl) rfl rfl ?_ | refine TN_val (rr_lss rfl rfl (qT (by omega))) rfl rfl ?_ | refine TN_val (rr_lss rfl rfl (qF (by omega))) rfl rfl ?_ | refine TN_val (rr_gtr rfl rfl (qT (by omega))) rfl rfl ?_ | refine TN_val (rr_gtr rfl rfl (qF (by omega))) rfl rfl ?_ | refine TN_val (rr_eql rfl rfl (qT (by omega))) rfl rfl ?_ | refine TN_val (rr_eql rfl rfl (qF (by omega))) rfl rfl ?_ | refine TN_val (rr_neq rfl rfl (qT (by omega))) rfl rfl ?_ | refine TN_val (rr_neq rfl rfl (qF (by omega))) rfl rfl ?_ | refine TN_val (rr_add64 rfl rfl (by omega) (by omega) rfl) rfl rfl ?_)
          | refine TW_skip rfl rfl rfl rfl rfl rfl rfl ?_ | refine TW_done ?_)
        refine TW_one rfl (TL_val (rr_load1 (v := vf) TyC.ty rfl (at_blk (i := 4) rfl rfl)) rfl rfl rfl (TW_on (sub_pick [12] (by decide) rfl) ?_))
        refine TW_one rfl (TL_call (he2 EntersC.en rfl rfl rfl) (fun w' hm => union_calls vf va m.first first w' (Sl.of_own (hm.get (i := 1) rfl)) (Sl.of_own (hm.get (i := 10) rfl)) (by omega) (by omega)) rfl rfl rfl ?_)
        intro vf' _
        conv => arg 8; simp only [zA, zB, zC, zD, zE, zF, zG, zH, zI, rowS, ret, id_eq, intRS]
        refine TW_on (sub_pick [12] (by decide) rfl) ?_
        repeat (first
          | ((first | refine TW_plain rfl rfl ?_ | refine TW_gmet rfl rfl rfl rfl ?_); first | refine TN_val (qp rfl) rfl rfl ?_ | refine TN_val (rr_nilc rfl) rfl rfl ?_ | refine TN_val (qlen Und.eq rfl) rfl rfl ?_ | refine TN_val (qfld FldC.fld rfl rfl) rfl rfl ?_ | refine TN_val (rr_nilc rfl) rfl rfl ?_ | refine TN_val (rr_lss rfl rfl (qT (by omega))) rfl rfl ?_ | refine TN_val (rr_lss rfl rfl (qF (by omega))) rfl rfl ?_ | refine TN_val (rr_gtr rfl rfl (qT (by omega))) rfl rfl ?_ | refine TN_val (rr_gtr rfl rfl (qF (by omega))) rfl rfl ?_ | refine TN_val (rr_eql rfl rfl (qT (by omega))) rfl rfl ?_ | refine TN_val (rr_eql rfl rfl (qF (by omega))) rfl rfl ?_ | refine TN_val (rr_neq rfl rfl (qT (by omega))) rfl rfl ?_ | refine TN_val (rr_neq rfl rfl (qF (by omega))) rfl rfl ?_ | refine TN_val (rr_add64 rfl rfl (by omega) (by omega) rfl) rfl rfl ?_)
          | refine TW_skip rfl rfl rfl rfl rfl rfl rfl ?_ | refine TW_done ?_)
        refine TW_one rfl (TL_slv (i := 13) rfl fun qf1 qf2 => TL_store1 (i := 4) rfl rfl rfl qf1 qf2 rfl (TW_on (sub_pick [12] (by decide) rfl) ?_))
        repeat (first
          | ((first | refine TW_plain rfl rfl ?_ | refine TW_gmet rfl rfl rfl rfl ?_); first | refine TN_val (qp rfl) rfl rfl ?_ | refine TN_val (qlen Und.eq rfl) rfl rfl ?_ | refine TN_val (qfld FldC.fld rfl rfl) rfl rfl ?_ | refine TN_val (rr_nilc rfl) rfl rfl ?_ | refine TN_val (rr_lss rfl rfl (qT (by omega))) rfl rfl ?_ | refine TN_val (rr_lss rfl rfl (qF (by omega))) rfl rfl ?_ | refine TN_val (rr_gtr rfl rfl (qT (by omega))) rfl rfl ?_ | refine TN_val (rr_gtr rfl rfl (qF (by omega))) rfl rfl ?_ | refine TN_val (rr_eql rfl rfl (qT (by omega))) rfl rfl ?_ | refine TN_val (rr_eql rfl rfl (qF (by omega))) rfl rfl ?_ | refine TN_val (rr_neq rfl rfl (qT (by omega))) rfl rfl ?_ | refine TN_val (rr_neq rfl rfl (qF (by omega))) rfl rfl ?_ | refine TN_val (rr_add64 rfl rfl (by omega) (by omega) rfl) rfl rfl ?_)
          | refine TW_skip rfl rfl rfl rfl rfl rfl rfl ?_ | refine TW_done ?_)
        refine E_pick [0, 4, 5, 6, 7, 8, 9, 13, 2, 12, 11] (by decide) rfl ?_
        exact E_mid vf' qf2 (by repeat' (first | exact True.intro | refine And.intro rfl ?_)) rfl
      intro vf' hf'
      (repeat refine T_seq ?_)
      refine T_midq (ι := Value) (fun ve' => ve'.oneCell' = true) (fun _ => [(2, .pointer (some ⟨g2, 0, none⟩)), (7, .pointer (some ⟨g7, 0, none⟩)), (10, .pointer (some ⟨g10, 0, none⟩)), (37, .slice (some ⟨b, off, none⟩) (es.map emb).length ck), (38, .int .i64 (es.map emb).length), (39, .int .i64 (k : Int))])
        (fun ve' => [blkO g2 #[.slice none 0 0, .slice none 0 0, .slice none 0 0, .slice none 0 0, .slice none 0 0, .slice none 0 0] 28, blkO g7 (mkC vc' vr' vf' vfol' vl' ve' (k : Int)) 47, rowO 34 4 vc' p'.classes.length (p'.classes.flatMap clsL), intR vr' p'.rules, folR vfol' vs', folE F' vs' p'.follow, rowO 4 1 vl' p'.last.length (p'.last.map Value.bool), intR vf' (uni m.first first), rowO 4 1 ve' (m.empty ++ [em]).length ((m.empty ++ [em]).map Value.bool), blkO g10 #[.bool em, va, vb] 49, intR vb last]) ?_ ?_
      · refine T_ord ([blkO g10 #[.bool em, va, vb] 49]) (.calm 0 (.calm 1 (.calm 2 (.calm 3 (.calm 4 (.calm 6 (.calm 7 (.two 5 (.one 8 (.one 9 (.calm 10 (.calm 11 (.calm 12 (.one 13 (.done))))))) 8 (.one 5 (.one 9 (.calm 10 (.calm 11 (.calm 12 (.one 13 (.done))))))))))))))) (sub_pick [9] (by decide) rfl) (by kernel_rfl) (by kernel_rfl) (by intro c a d v w h; cases d <;> exact h) ?_
        repeat (first
          | ((first | refine TW_plain rfl rfl ?_ | refine TW_gmet rfl rfl rfl rfl ?_); first | refine TN_val (qp rfl) rfl rfl ?_ | refine TN_val (rr_nilc rfl) rfl rfl ?_ | refine TN_val (rr_load1 TyC.ty rfl (at_blk (i := 0) rfl rfl)) rfl rfl ?_ | refine TN_val (qlen Und.eq rfl) rfl rfl ?_ | refine TN_val (qfld FldC.fld rfl rfl) rfl rfl ?_ | refine TN_val (rr_nilc rfl) rfl rfl ?_ | refine TN_val (rr_lss rfl rfl (qT (by omega))) rfl rfl ?_ | refine TN_val (rr_lss rfl rfl (qF (by omega))) rfl rfl ?_ | refine TN_val (rr_gtr rfl rfl (qT (by omega))) rfl rfl ?_ | refine TN_val (rr_gtr rfl rfl (qF (by omega))) rfl rfl ?_ | refine TN_val (rr_eql rfl rfl (qT (by omega))) rfl rfl ?_ | refine TN_val (rr_eql rfl rfl (qF (by omega))) rfl rfl ?_ | refine TN_val (rr_neq rfl rfl (qT (by omega))) rfl rfl ?_ | refine TN_val (rr_neq rfl rfl (qF (by omega))) rfl rfl ?_ | refine TN_val (rr_add64 rfl rfl (by omega) (by omega) rfl) rfl rfl ?_)
          | refine TW_skip rfl rfl rfl rfl rfl rfl rfl ?_ | refine TW_done ?_)
        refine TW_two rfl rfl ?_ ?_
        · refine TL_val (rr_load1 (v := ve) TyC.ty rfl (at_blk (i := 1) rfl rfl)) rfl rfl rfl (TW_on (sub_pick [9] (by decide) rfl) ?_)
          refine TW_one rfl (TL_litN (cs := #[.bool em]) [.bool em] rfl rfl rfl (by intro v hv; simp at hv; subst hv; rfl) rfl rfl rfl fun g71 => (TW_on (sub_pick [9] (by decide) rfl) ?_))
          refine TW_one rfl (TL_appSl (i := 8) (e := 4) (size := 1) (bytes := 1) (m := m.empty.length) (xs := m.empty.map Value.bool) (k := 1) (ys := [.bool em]) rfl (sl_blk (i := 11) rfl (fun j u h => by simpa using h) (Nat.le_refl 1) (by decide)) rfl rfl rfl (fun u hu => by rw [List.mem_singleton.1 hu]; rfl) (by omega) (by omega) rfl fun ve' => (TW_on (sub_pick [9] (by decide) rfl) ?_))
          repeat (first
            | ((first | refine TW_plain rfl rfl ?_ | refine TW_gmet rfl rfl rfl rfl ?_); first | refine TN_val (qp rfl) rfl rfl ?_ | refine TN_val (rr_nilc rfl) rfl rfl ?_ | refine TN_val (qlen Und.eq rfl) rfl rfl ?_ | refine TN_val (qfld FldC.fld rfl rfl) rfl rfl ?_ | refine TN_val (rr_nilc rfl) rfl rfl ?_ | refine TN_val (rr_lss rfl rfl (qT (by omega))) rfl rfl ?_ | refine TN_val (rr_lss rfl rfl (qF (by omega))) rfl rfl ?_ | refine TN_val (rr_gtr rfl rfl (qT (by omega))) rfl rfl ?_ | refine TN_val (rr_gtr rfl rfl (qF (by omega))) rfl rfl ?_ | refine TN_val (rr_eql rfl rfl (qT (by omega))) rfl rfl ?_ | refine TN_val (rr_eql rfl rfl (qF (by omega))) rfl rfl ?_ | refine TN_val (rr_neq rfl rfl (qT (by omega))) rfl rfl ?_ | refine TN_val (rr_neq rfl rfl (qF (by omega))) rfl rfl ?_ | refine TN_val (rr_add64 rfl rfl (by omega) (by omega) rfl) rfl rfl ?_)
            | refine TW_skip rfl rfl rfl rfl rfl rfl rfl ?_ | refine TW_done ?_)
          refine TW_one rfl (TL_slv (i := 8) rfl fun qe1 qe2 => TL_store1 (i := 1) rfl rfl rfl qe1 qe2 rfl (TW_on (sub_pick [9] (by decide) rfl) ?_))
          repeat (first
            | ((first | refine TW_plain rfl rfl ?_ | refine TW_gmet rfl rfl rfl rfl ?_); first | refine TN_val (qp rfl) rfl rfl ?_ | refine TN_val (qlen Und.eq rfl) rfl rfl ?_ | refine TN_val (qfld FldC.fld rfl rfl) rfl rfl ?_ | refine TN_val (rr_nilc rfl) rfl rfl ?_ | refine TN_val (rr_lss rfl rfl (qT (by omega))) rfl rfl ?_ | refine TN_val (rr_lss rfl rfl (qF (by omega))) rfl rfl ?_ | refine TN_val (rr_gtr rfl rfl (qT (by omega))) rfl rfl ?_ | refine TN_val (rr_gtr rfl rfl (qF (by omega))) rfl rfl ?_ | refine TN_val (rr_eql rfl rfl (qT (by omega))) rfl rfl ?_ | refine TN_val (rr_eql rfl rfl (qF (by omega))) rfl rfl ?_ | refine TN_val (rr_neq rfl rfl (qT (by omega))) rfl rfl ?_ | refine TN_val (rr_neq rfl rfl (qF (by omega))) rfl rfl ?_ | refine TN_val (rr_add64 rfl rfl (by omega) (by omega) rfl) rfl rfl ?_)
            | refine TW_skip rfl rfl rfl rfl rfl rfl rfl ?_ | refine TW_done ?_)
          refine E_pick [0, 1, 2, 3, 4, 5, 6, 7, 8, 9, 10] (by decide) rfl ?_
          exact E_mid ve' qe2 (by repeat' (first | exact True.intro | refine And.intro rfl ?_)) (by rw [← bool_snoc ve' m.empty em]; rfl)
        · refine TL_litN (cs := #[.bool em]) [.bool em] rfl rfl rfl (by intro v hv; simp at hv; subst hv; rfl) rfl rfl rfl fun g71 => (TW_on (sub_pick [9] (by decide) rfl) ?_)
          refine TW_one rfl (TL_val (rr_load1 (v := ve) TyC.ty rfl (at_blk (i := 1) rfl rfl)) rfl rfl rfl (TW_on (sub_pick [9] (by decide) rfl) ?_))
          refine TW_one rfl (TL_appSl (i := 8) (e := 4) (size := 1) (bytes := 1) (m := m.empty.length) (xs := m.empty.map Value.bool) (k := 1) (ys := [.bool em]) rfl (sl_blk (i := 11) rfl (fun j u h => by simpa using h) (Nat.le_refl 1) (by decide)) rfl rfl rfl (fun u hu => by rw [List.mem_singleton.1 hu]; rfl) (by omega) (by omega) rfl fun ve' => (TW_on (sub_pick [9] (by decide) rfl) ?_))
          repeat (first
            | ((first | refine TW_plain rfl rfl ?_ | refine TW_gmet rfl rfl rfl rfl ?_); first | refine TN_val (qp rfl) rfl rfl ?_ | refine TN_val (rr_nilc rfl) rfl rfl ?_ | refine TN_val (qlen Und.eq rfl) rfl rfl ?_ | refine TN_val (qfld FldC.fld rfl rfl) rfl rfl ?_ | refine TN_val (rr_nilc rfl) rfl rfl ?_ | refine TN_val (rr_lss rfl rfl (qT (by omega))) rfl rfl ?_ | refine TN_val (rr_lss rfl rfl (qF (by omega))) rfl rfl ?_ | refine TN_val (rr_gtr rfl rfl (qT (by omega))) rfl rfl ?_ | refine TN_val (rr_gtr rfl rfl (qF (by omega))) rfl rfl ?_ | refine TN_val (rr_eql rfl rfl (qT (by omega))) rfl rfl ?_ | refine TN_val (rr_eql rfl rfl (qF (by omega))) rfl rfl ?_ | refine TN_val (rr_neq rfl rfl (qT (by omega))) rfl rfl ?_ | refine TN_val (rr_neq rfl rfl (qF (by omega))) rfl rfl ?_ | refine TN_val (rr_add64 rfl rfl (by omega) (by omega) rfl) rfl rfl ?_)
            | refine TW_skip rfl rfl rfl rfl rfl rfl rfl ?_ | refine TW_done ?_)
          refine TW_one rfl (TL_slv (i := 8) rfl fun qe1 qe2 => TL_store1 (i := 1) rfl rfl rfl qe1 qe2 rfl (TW_on (sub_pick [9] (by decide) rfl) ?_))
          repeat (first
            | ((first | refine TW_plain rfl rfl ?_ | refine TW_gmet rfl rfl rfl rfl ?_); first | refine TN_val (qp rfl) rfl rfl ?_ | refine TN_val (qlen Und.eq rfl) rfl rfl ?_ | refine TN_val (qfld FldC.fld rfl rfl) rfl rfl ?_ | refine TN_val (rr_nilc rfl) rfl rfl ?_ | refine TN_val (rr_lss rfl rfl (qT (by omega))) rfl rfl ?_ | refine TN_val (rr_lss rfl rfl (qF (by omega))) rfl rfl ?_ | refine TN_val (rr_gtr rfl rfl (qT (by omega))) rfl rfl ?_ | refine TN_val (rr_gtr rfl rfl (qF (by omega))) rfl rfl ?_ | refine TN_val (rr_eql rfl rfl (qT (by omega))) rfl rfl ?_ | refine TN_val (rr_eql rfl rfl (qF (by omega))) rfl rfl ?_ | refine TN_val (rr_neq rfl rfl (qT (by omega))) rfl rfl ?_ | refine TN_val (rr_neq rfl rfl (qF (by omega))) rfl rfl ?_ | refine TN_val (rr_add64 rfl rfl (by omega) (by omega) rfl) rfl rfl ?_)
            | refine TW_skip rfl rfl rfl rfl rfl rfl rfl ?_ | refine TW_done ?_)
          refine E_pick [0, 1, 2, 3, 4, 5, 6, 7, 8, 9, 10] (by decide) rfl ?_
          exact E_mid ve' qe2 (by repeat' (first | exact True.intro | refine And.intro rfl ?_)) (by rw [← bool_snoc ve' m.empty em]; rfl)
      intro ve' he'
      rw [show p'.last.map Value.bool = p'.last.flatMap boolC from (bool_flat _).symm]
      refine T_know (i := 10) (φ := ∃ a c, vb = .slice a last.length c ∧ (0 < last.length → ∃ gl, a = some ⟨gl, 0, none⟩)) rfl (fun w h => by
        obtain ⟨y1, y2⟩ := (show w.ownsRow 0 3 1 vb last.length (last.map (Value.int .i64)) from h)
        rcases y2 with ⟨y3, y4⟩ | ⟨gl, cap, cur, hv, _⟩
        · exact ⟨none, 0, by rw [y3, y4], fun h => by omega⟩
        · exact ⟨_, _, hv, fun _ => ⟨gl, rfl⟩⟩) fun hvb => ?_
      obtain ⟨al, cl, rfl, hal⟩ := hvb
      refine T_know (i := 6) (φ := 0 < p'.last.length → ∃ gb cb, vl' = .slice (some ⟨gb, 0, none⟩) p'.last.length cb) rfl (fun w h => by
        obtain ⟨y1, y2⟩ := (show w.ownsRow 0 4 1 vl' p'.last.length (p'.last.flatMap boolC) from h)
        rcases y2 with ⟨y3, y4⟩ | ⟨gl, cap, cur, hv, _⟩
        · intro h; omega
        · exact fun _ => ⟨gl, cap, hv⟩) fun hvl => ?_
      repeat (first
        | refine qv rfl (qp rfl) rfl rfl ?_ | refine TL_nil ?_ | refine T_seq ?_ | refine T_region ?_ | refine qcT rfl ?_ | refine qcF rfl ?_ | refine T_skip ?_
        | refine T_exit ?_ | refine T_ret ?_ | refine T_block ?_ | refine E_then ?_ | refine E_thenX ?_ | refine E_thenR ?_ | refine E_blockN ?_
        | refine E_blockR ?_ | refine E_blockX ?_ | refine E_blockO rfl ?_ | refine qs rfl rfl rfl rfl rfl rfl ?_
        | ((try refine qg rfl rfl rfl ?_); first | refine qv rfl (qp rfl) rfl rfl ?_ | refine qv rfl (rr_load1 (v := .slice al last.length cl) TyC.ty rfl (at_blk (i := 9) rfl rfl)) rfl rfl ?_ | refine qv rfl (qlen Und.eq rfl) rfl rfl ?_ | refine qv rfl (qfld FldC.fld rfl rfl) rfl rfl ?_ | refine qv rfl (rr_nilc rfl) rfl rfl ?_ | refine qv rfl (rr_lss rfl rfl (qT (by omega))) rfl rfl ?_ | refine qv rfl (rr_lss rfl rfl (qF (by omega))) rfl rfl ?_ | refine qv rfl (rr_gtr rfl rfl (qT (by omega))) rfl rfl ?_ | refine qv rfl (rr_gtr rfl rfl (qF (by omega))) rfl rfl ?_ | refine qv rfl (rr_eql rfl rfl (qT (by omega))) rfl rfl ?_ | refine qv rfl (rr_eql rfl rfl (qF (by omega))) rfl rfl ?_ | refine qv rfl (rr_neq rfl rfl (qT (by omega))) rfl rfl ?_ | refine qv rfl (rr_neq rfl rfl (qF (by omega))) rfl rfl ?_ | refine qv rfl (rr_add64 rfl rfl (by omega) (by omega) rfl) rfl rfl ?_))
      refine T_pick [0, 1, 2, 3, 4, 5, 6, 7, 8, 10] (by decide) rfl ?_
      refine T_loop (ι := Nat) (fun j => j ≤ last.length) (fun j => [(2, .pointer (some ⟨g2, 0, none⟩)), (7, .pointer (some ⟨g7, 0, none⟩)), (37, .slice (some ⟨b, off, none⟩) (es.map emb).length ck), (38, .int .i64 (es.map emb).length), (39, .int .i64 (k : Int)), (77, .slice al last.length cl), (78, .int .i64 last.length), (79, .int .i64 (j : Int))])
        (fun j => [blkO g2 #[.slice none 0 0, .slice none 0 0, .slice none 0 0, .slice none 0 0, .slice none 0 0, .slice none 0 0] 28, blkO g7 (mkC vc' vr' vf' vfol' vl' ve' (k : Int)) 47, rowO 34 4 vc' p'.classes.length (p'.classes.flatMap clsL), intR vr' p'.rules, folR vfol' vs', folE F' vs' p'.follow, rowO 4 1 vl' p'.last.length ((markF p'.last (last.take j)).flatMap boolC), intR vf' (uni m.first first), rowO 4 1 ve' (m.empty ++ [em]).length ((m.empty ++ [em]).map Value.bool), intR (.slice al last.length cl) last]) (fun j => last.length - j) 0 (Nat.zero_le _) (by repeat' (first | exact True.intro | refine And.intro rfl ?_)) rfl ?_
      intro j j1
      by_cases c7 : j < last.length
      · obtain ⟨gl, rfl⟩ := hal (by omega)
        have hx := n5.2 last[j] (List.getElem_mem c7)
        have hgx : last[j]? = some last[j] := List.getElem?_eq_getElem c7
        have hms := mark_step p'.last last c7
        have hml2 := mark_len p'.last (last.take j)
        generalize last[j] = xx at *
        obtain ⟨xn, rfl⟩ := Int.eq_ofNat_of_zero_le hx.1
        rw [Int.toNat_natCast] at hms
        have hxn : xn < p'.last.length := by rw [n1.last]; omega
        obtain ⟨gb, cb, rfl⟩ := hvl (by omega)
        have hat3 : ∀ (L : List Own) (hi : L[9]? = some (intR (.slice (some ⟨gl, 0, none⟩) last.length cl) last)), At (w : Base) L ⟨gl, 0 + j * 1, none⟩ (.int .i64 (xn : Int)) := fun L hi => at_row hi (by rw [List.getElem?_map, Nat.zero_add, Nat.mul_one, hgx]; rfl)
        repeat (first
          | refine qv rfl (qp rfl) rfl rfl ?_ | refine TL_nil ?_ | refine T_seq ?_ | refine T_region ?_ | refine qcT rfl ?_ | refine qcF rfl ?_ | refine T_skip ?_
          | refine T_exit ?_ | refine T_ret ?_ | refine T_block ?_ | refine E_then ?_ | refine E_thenX ?_ | refine E_thenR ?_ | refine E_blockN ?_
          | refine E_blockR ?_ | refine E_blockX ?_ | refine E_blockO rfl ?_ | refine qs rfl rfl rfl rfl rfl rfl ?_
          | ((try refine qg rfl rfl rfl ?_); first | refine qv rfl (qp rfl) rfl rfl ?_ | refine qv rfl (rr_idxc Und.eq TyC.ty rfl rfl c7) rfl rfl ?_ | refine qv rfl (rr_load1 (v := .int .i64 (xn : Int)) TyC.ty rfl (hat3 _ rfl)) rfl rfl ?_ | refine qv rfl (rr_nilc rfl) rfl rfl ?_ | refine qv rfl (rr_load1 (v := .slice (some ⟨gb, 0, none⟩) p'.last.length cb) TyC.ty rfl (at_blk (i := 1) rfl rfl)) rfl rfl ?_ | refine qv rfl (rr_idxc Und.eq TyC.ty rfl rfl hxn) rfl rfl ?_ | refine qv rfl (qlen Und.eq rfl) rfl rfl ?_ | refine qv rfl (qfld FldC.fld rfl rfl) rfl rfl ?_ | refine qv rfl (rr_nilc rfl) rfl rfl ?_ | refine qv rfl (rr_lss rfl rfl (qT (by omega))) rfl rfl ?_ | refine qv rfl (rr_lss rfl rfl (qF (by omega))) rfl rfl ?_ | refine qv rfl (rr_gtr rfl rfl (qT (by omega))) rfl rfl ?_ | refine qv rfl (rr_gtr rfl rfl (qF (by omega))) rfl rfl ?_ | refine qv rfl (rr_eql rfl rfl (qT (by omega))) rfl rfl ?_ | refine qv rfl (rr_eql rfl rfl (qF (by omega))) rfl rfl ?_ | refine qv rfl (rr_neq rfl rfl (qT (by omega))) rfl rfl ?_ | refine qv rfl (rr_neq rfl rfl (qF (by omega))) rfl rfl ?_ | refine qv rfl (rr_add64 rfl rfl (by omega) (by omega) rfl) rfl rfl ?_))
        refine TL_setRow boolC_len (i := 6) (k := xn) (l := markF p'.last (last.take j)) (a := true) TyC.ty rfl rfl (by omega) (by omega) (by omega) rfl rfl rfl ?_
        rw [← hms]
        conv => arg 8; simp only [zA, zB, zC, zD, zE, zF, zG, zH, zI, rowS, ret, id_eq]
        repeat (first
          | refine qv rfl (qp rfl) rfl rfl ?_ | refine TL_nil ?_ | refine T_seq ?_ | refine T_region ?_ | refine qcT rfl ?_ | refine qcF rfl ?_ | refine T_skip ?_
          | refine T_exit ?_ | refine T_ret ?_ | refine T_block ?_ | refine E_then ?_ | refine E_thenX ?_ | refine E_thenR ?_ | refine E_blockN ?_
          | refine E_blockR ?_ | refine E_blockX ?_ | refine E_blockO rfl ?_ | refine qs rfl rfl rfl rfl rfl rfl ?_
          | ((try refine qg rfl rfl rfl ?_); first | refine qv rfl (qp rfl) rfl rfl ?_ | refine qv rfl (qlen Und.eq rfl) rfl rfl ?_ | refine qv rfl (qfld FldC.fld rfl rfl) rfl rfl ?_ | refine qv rfl (rr_nilc rfl) rfl rfl ?_ | refine qv rfl (rr_lss rfl rfl (qT (by omega))) rfl rfl ?_ | refine qv rfl (rr_lss rfl rfl (qF (by omega))) rfl rfl ?_ | refine qv rfl (rr_gtr rfl rfl (qT (by omega))) rfl rfl ?_ | refine qv rfl (rr_gtr rfl rfl (qF (by omega))) rfl rfl ?_ | refine qv rfl (rr_eql rfl rfl (qT (by omega))) rfl rfl ?_ | refine qv rfl (rr_eql rfl rfl (qF (by omega))) rfl rfl ?_ | refine qv rfl (rr_neq rfl rfl (qT (by omega))) rfl rfl ?_ | refine qv rfl (rr_neq rfl rfl (qF (by omega))) rfl rfl ?_ | refine qv rfl (rr_add64 rfl rfl (by omega) (by omega) rfl) rfl rfl ?_))
        exact E_round (j + 1) (by omega) (by show last.length - (j + 1) < last.length - j; omega) (by repeat' (first | exact True.intro | refine And.intro rfl ?_)) rfl
      · obtain rfl : j = last.length := by omega
        rw [List.take_of_length_le (Nat.le_refl _), bool_flat]
        refine T_know (i := 2) (φ := ∃ a c, vc' = .slice a p'.classes.length c) rfl (fun w h => by
          obtain ⟨a, c, h, _⟩ := Sl.of_own (show w.ownsRow 0 34 4 vc' p'.classes.length (p'.classes.flatMap clsL) from h)
          exact ⟨a, c, h⟩) fun hvc => ?_
        obtain ⟨ac, cc, rfl⟩ := hvc
        by_cases c8 : 200 < p'.classes.length
        · rw [if_pos c8] at i2
          rw [i2]
          repeat (first
            | refine qv rfl (qp rfl) rfl rfl ?_ | refine TL_nil ?_ | refine T_seq ?_ | refine T_region ?_ | refine qcT rfl ?_ | refine qcF rfl ?_ | refine T_skip ?_
            | refine T_exit ?_ | refine T_ret ?_ | refine T_block ?_ | refine E_then ?_ | refine E_thenX ?_ | refine E_thenR ?_ | refine E_blockN ?_
            | refine E_blockR ?_ | refine E_blockX ?_ | refine E_blockO rfl ?_ | refine qs rfl rfl rfl rfl rfl rfl ?_
            | ((try refine qg rfl rfl rfl ?_); first | refine qv rfl (qp rfl) rfl rfl ?_ | refine qv rfl (rr_nilc rfl) rfl rfl ?_ | refine qv rfl (rr_load1 (v := .slice ac p'.classes.length cc) TyC.ty rfl (at_blk (i := 1) rfl rfl)) rfl rfl ?_ | refine qv rfl (rr_gtr (b := true) rfl rfl (decide_eq_true (by omega))) rfl rfl ?_ | refine qv rfl (rr_build rfl build_posz) rfl rfl ?_ | refine qv rfl (qlen Und.eq rfl) rfl rfl ?_ | refine qv rfl (qfld FldC.fld rfl rfl) rfl rfl ?_ | refine qv rfl (rr_nilc rfl) rfl rfl ?_ | refine qv rfl (rr_lss rfl rfl (qT (by omega))) rfl rfl ?_ | refine qv rfl (rr_lss rfl rfl (qF (by omega))) rfl rfl ?_ | refine qv rfl (rr_gtr rfl rfl (qT (by omega))) rfl rfl ?_ | refine qv rfl (rr_gtr rfl rfl (qF (by omega))) rfl rfl ?_ | refine qv rfl (rr_eql rfl rfl (qT (by omega))) rfl rfl ?_ | refine qv rfl (rr_eql rfl rfl (qF (by omega))) rfl rfl ?_ | refine qv rfl (rr_neq rfl rfl (qT (by omega))) rfl rfl ?_ | refine qv rfl (rr_neq rfl rfl (qF (by omega))) rfl rfl ?_ | refine qv rfl (rr_add64 rfl rfl (by omega) (by omega) rfl) rfl rfl ?_))
          refine TL_storeB (i := 0) rfl rfl rfl rfl rfl rfl ?_
          conv => arg 8; simp only [zA, zB, zC, zD, zE, zF, zG, zH, zI, rowS, ret, id_eq]
          repeat (first
            | refine qv rfl (qp rfl) rfl rfl ?_ | refine TL_nil ?_ | refine T_seq ?_ | refine T_region ?_ | refine qcT rfl ?_ | refine qcF rfl ?_ | refine T_skip ?_
            | refine T_exit ?_ | refine T_ret ?_ | refine T_block ?_ | refine E_then ?_ | refine E_thenX ?_ | refine E_thenR ?_ | refine E_blockN ?_
            | refine E_blockR ?_ | refine E_blockX ?_ | refine E_blockO rfl ?_ | refine qs rfl rfl rfl rfl rfl rfl ?_
            | ((try refine qg rfl rfl rfl ?_); first | refine qv rfl (qp rfl) rfl rfl ?_ | refine qv rfl (qlen Und.eq rfl) rfl rfl ?_ | refine qv rfl (qfld FldC.fld rfl rfl) rfl rfl ?_ | refine qv rfl (rr_nilc rfl) rfl rfl ?_ | refine qv rfl (rr_lss rfl rfl (qT (by omega))) rfl rfl ?_ | refine qv rfl (rr_lss rfl rfl (qF (by omega))) rfl rfl ?_ | refine qv rfl (rr_gtr rfl rfl (qT (by omega))) rfl rfl ?_ | refine qv rfl (rr_gtr rfl rfl (qF (by omega))) rfl rfl ?_ | refine qv rfl (rr_eql rfl rfl (qT (by omega))) rfl rfl ?_ | refine qv rfl (rr_eql rfl rfl (qF (by omega))) rfl rfl ?_ | refine qv rfl (rr_neq rfl rfl (qT (by omega))) rfl rfl ?_ | refine qv rfl (rr_neq rfl rfl (qF (by omega))) rfl rfl ?_ | refine qv rfl (rr_add64 rfl rfl (by omega) (by omega) rfl) rfl rfl ?_))
          refine E_zero ?_
          exact E_retc2 (i := 0) rfl rfl rfl rfl rfl fun w hm => hm.meets (S := makeSp (2, .zero)) nilP rfl [10, 11, 12, 13, 14, 15, 16] (by decide) rfl
        · rw [if_neg c8] at i2
          repeat (first
            | refine qv rfl (qp rfl) rfl rfl ?_ | refine TL_nil ?_ | refine T_seq ?_ | refine T_region ?_ | refine qcT rfl ?_ | refine qcF rfl ?_ | refine T_skip ?_
            | refine T_exit ?_ | refine T_ret ?_ | refine T_block ?_ | refine E_then ?_ | refine E_thenX ?_ | refine E_thenR ?_ | refine E_blockN ?_
            | refine E_blockR ?_ | refine E_blockX ?_ | refine E_blockO rfl ?_ | refine qs rfl rfl rfl rfl rfl rfl ?_
            | ((try refine qg rfl rfl rfl ?_); first | refine qv rfl (qp rfl) rfl rfl ?_ | refine qv rfl (rr_nilc rfl) rfl rfl ?_ | refine qv rfl (rr_load1 (v := .slice ac p'.classes.length cc) TyC.ty rfl (at_blk (i := 1) rfl rfl)) rfl rfl ?_ | refine qv rfl (rr_gtr (b := false) rfl rfl (decide_eq_false (by omega))) rfl rfl ?_ | refine qv rfl (qlen Und.eq rfl) rfl rfl ?_ | refine qv rfl (qfld FldC.fld rfl rfl) rfl rfl ?_ | refine qv rfl (rr_nilc rfl) rfl rfl ?_ | refine qv rfl (rr_lss rfl rfl (qT (by omega))) rfl rfl ?_ | refine qv rfl (rr_lss rfl rfl (qF (by omega))) rfl rfl ?_ | refine qv rfl (rr_gtr rfl rfl (qT (by omega))) rfl rfl ?_ | refine qv rfl (rr_gtr rfl rfl (qF (by omega))) rfl rfl ?_ | refine qv rfl (rr_eql rfl rfl (qT (by omega))) rfl rfl ?_ | refine qv rfl (rr_eql rfl rfl (qF (by omega))) rfl rfl ?_ | refine qv rfl (rr_neq rfl rfl (qT (by omega))) rfl rfl ?_ | refine qv rfl (rr_neq rfl rfl (qF (by omega))) rfl rfl ?_ | refine qv rfl (rr_add64 rfl rfl (by omega) (by omega) rfl) rfl rfl ?_))
          refine E_pick [0, 1, 2, 3, 4, 5, 6, 7, 8] (by decide) rfl ?_
          exact E_round (k + 1, ⟨{ p' with last := markF p'.last last }, uni m.first first, m.empty ++ [em]⟩, ⟨.slice ac p'.classes.length cc, vr', vfol', vl', vs', F'⟩, vf', ve', (k : Int)) ⟨by omega, i2, hst.1, by show p'.classes.length ≤ 200; omega, hx', by rw [List.length_append, List.length_singleton, i6]⟩ (by show es.length - (k + 1) < es.length - k; omega) (by repeat' (first | exact True.intro | refine And.intro rfl ?_)) (by dsimp only; rw [show p'.last.length = (markF p'.last last).length from (mark_len _ _).symm]; rfl)
    · obtain rfl : k = es.length := by omega
      rw [List.drop_eq_nil_of_le (Nat.le_refl _)] at i2
      rw [i2]
      repeat (first
        | refine qv rfl (qp rfl) rfl rfl ?_ | refine TL_nil ?_ | refine T_seq ?_ | refine T_region ?_ | refine qcT rfl ?_ | refine qcF rfl ?_ | refine T_skip ?_
        | refine T_exit ?_ | refine T_ret ?_ | refine T_block ?_ | refine E_then ?_ | refine E_thenX ?_ | refine E_thenR ?_ | refine E_blockN ?_
        | refine E_blockR ?_ | refine E_blockX ?_ | refine E_blockO rfl ?_ | refine qs rfl rfl rfl rfl rfl rfl ?_
        | ((try refine qg rfl rfl rfl ?_); first | refine qv rfl (qp rfl) rfl rfl ?_ | refine qv rfl (rr_nilc rfl) rfl rfl ?_ | refine qv rfl (qlen Und.eq rfl) rfl rfl ?_ | refine qv rfl (qfld FldC.fld rfl rfl) rfl rfl ?_ | refine qv rfl (rr_nilc rfl) rfl rfl ?_ | refine qv rfl (rr_lss rfl rfl (qT (by omega))) rfl rfl ?_ | refine qv rfl (rr_lss rfl rfl (qF (by omega))) rfl rfl ?_ | refine qv rfl (rr_gtr rfl rfl (qT (by omega))) rfl rfl ?_ | refine qv rfl (rr_gtr rfl rfl (qF (by omega))) rfl rfl ?_ | refine qv rfl (rr_eql rfl rfl (qT (by omega))) rfl rfl ?_ | refine qv rfl (rr_eql rfl rfl (qF (by omega))) rfl rfl ?_ | refine qv rfl (rr_neq rfl rfl (qT (by omega))) rfl rfl ?_ | refine qv rfl (rr_neq rfl rfl (qF (by omega))) rfl rfl ?_ | refine qv rfl (rr_add64 rfl rfl (by omega) (by omega) rfl) rfl rfl ?_))
      refine TL_slv (i := 2) rfl fun _ a1 => TL_slv (i := 3) rfl fun _ a2 => TL_slv (i := 4) rfl fun _ a3 => TL_slv (i := 6) rfl fun _ a4 => TL_slv (i := 7) rfl fun _ a5 => TL_slv (i := 8) rfl fun _ a6 => ?_
      repeat (first
        | refine qv rfl (qp rfl) rfl rfl ?_ | refine TL_nil ?_ | refine T_seq ?_ | refine T_region ?_ | refine qcT rfl ?_ | refine qcF rfl ?_ | refine T_skip ?_
        | refine T_exit ?_ | refine T_ret ?_ | refine T_block ?_ | refine E_then ?_ | refine E_thenX ?_ | refine E_thenR ?_ | refine E_blockN ?_
        | refine E_blockR ?_ | refine E_blockX ?_ | refine E_blockO rfl ?_ | refine qs rfl rfl rfl rfl rfl rfl ?_
        | ((try refine qg rfl rfl rfl ?_); first | refine qv rfl (qp rfl) rfl rfl ?_ | refine qv rfl (rr_loadN (cs := [vc, vr, vf, vfol, vl, ve]) TyC.ty rfl rfl (fun j v hj => at_blk (i := 1) rfl (posn_at hj))) rfl rfl ?_ | refine qv rfl (qlen Und.eq rfl) rfl rfl ?_ | refine qv rfl (qfld FldC.fld rfl rfl) rfl rfl ?_ | refine qv rfl (rr_nilc rfl) rfl rfl ?_ | refine qv rfl (rr_lss rfl rfl (qT (by omega))) rfl rfl ?_ | refine qv rfl (rr_lss rfl rfl (qF (by omega))) rfl rfl ?_ | refine qv rfl (rr_gtr rfl rfl (qT (by omega))) rfl rfl ?_ | refine qv rfl (rr_gtr rfl rfl (qF (by omega))) rfl rfl ?_ | refine qv rfl (rr_eql rfl rfl (qT (by omega))) rfl rfl ?_ | refine qv rfl (rr_eql rfl rfl (qF (by omega))) rfl rfl ?_ | refine qv rfl (rr_neq rfl rfl (qT (by omega))) rfl rfl ?_ | refine qv rfl (rr_neq rfl rfl (qF (by omega))) rfl rfl ?_ | refine qv rfl (rr_add64 rfl rfl (by omega) (by omega) rfl) rfl rfl ?_))
      refine TL_storeB (i := 0) (cs' := #[vc, vr, vf, vfol, vl, ve]) rfl rfl rfl rfl (by simp only [List.all_cons, List.all_nil, a1, a2, a3, a4, a5, a6]; rfl) rfl ?_
      conv => arg 8; simp only [zA, zB, zC, zD, zE, zF, zG, zH, zI, rowS, ret, id_eq]
      repeat (first
        | refine qv rfl (qp rfl) rfl rfl ?_ | refine TL_nil ?_ | refine T_seq ?_ | refine T_region ?_ | refine qcT rfl ?_ | refine qcF rfl ?_ | refine T_skip ?_
        | refine T_exit ?_ | refine T_ret ?_ | refine T_block ?_ | refine E_then ?_ | refine E_thenX ?_ | refine E_thenR ?_ | refine E_blockN ?_
        | refine E_blockR ?_ | refine E_blockX ?_ | refine E_blockO rfl ?_ | refine qs rfl rfl rfl rfl rfl rfl ?_
        | ((try refine qg rfl rfl rfl ?_); first | refine qv rfl (qp rfl) rfl rfl ?_ | refine qv rfl (qlen Und.eq rfl) rfl rfl ?_ | refine qv rfl (qfld FldC.fld rfl rfl) rfl rfl ?_ | refine qv rfl (rr_nilc rfl) rfl rfl ?_ | refine qv rfl (rr_lss rfl rfl (qT (by omega))) rfl rfl ?_ | refine qv rfl (rr_lss rfl rfl (qF (by omega))) rfl rfl ?_ | refine qv rfl (rr_gtr rfl rfl (qT (by omega))) rfl rfl ?_ | refine qv rfl (rr_gtr rfl rfl (qF (by omega))) rfl rfl ?_ | refine qv rfl (rr_eql rfl rfl (qT (by omega))) rfl rfl ?_ | refine qv rfl (rr_eql rfl rfl (qF (by omega))) rfl rfl ?_ | refine qv rfl (rr_neq rfl rfl (qT (by omega))) rfl rfl ?_ | refine qv rfl (rr_neq rfl rfl (qF (by omega))) rfl rfl ?_ | refine qv rfl (rr_add64 rfl rfl (by omega) (by omega) rfl) rfl rfl ?_))
      exact E_retc2 (i := 0) rfl rfl rfl rfl rfl fun w hm => hm.meets (S := makeSp (0, m)) ⟨vc, vr, vf, vfol, vl, ve, vs, F⟩ i5 [2, 3, 7, 4, 5, 6, 8] (by decide) rfl
end Go.Proofs.YtndbaalenclgaaaDoor.eng

/- PlR -/
namespace Go.Proofs.YtndbaalenclgaaaDoor.eng
open Go.RowKit kit mix classL rexL placesL classSets
theorem slr_gr {w w' : World} {v : Value} {l : List Rx} (h : SlF rexS (Low w) w v l) (hg : Gr w w') : SlF rexS (Low w') w' v l :=
  (h.stay fun k hk => hg.block k hk).mono fun k hk => Nat.lt_of_lt_of_le hk hg.size
theorem one_rexs {w : World} {g : Nat} {k : Int} {c : C4} {kids : List Rx} {vk : Value} (h : (blkO g (rexC k c vk).toArray 36).holds w) (hr : RexR (Low w) w (rexV k c vk) (.mk k c kids)) : SlF rexS (Low w) w (.slice (some ⟨g, 0, none⟩) 1 1) [.mk k c kids] := by
  obtain ⟨vk', e, _, hs⟩ := star_rexK (w := w) (g := g) (by show w.heap[g]? = _; rw [List.flatten_cons, List.flatten_nil, List.append_nil]; exact h) hr
  have : vk' = .slice (some ⟨g, 0, none⟩) 1 1 := by simp [rexV, rexC, clsL, Rx.kind, Rx.cls] at e; exact e.symm
  subst this
  exact hs
theorem embs_of : ∀ {rs : List Rx}, checkM rs = 0 → ∃ es : List Re, rs = es.map emb ∧ ∀ e ∈ es, Fit e 1 0
  | [], _ => ⟨[], rfl, fun _ h => by cases h⟩
  | r :: l, h => by
    have hr := check_all h r (List.mem_cons_self ..)
    have hl : checkM l = 0 := by rw [checkM, if_neg (by simpa using hr)] at h; exact h
    obtain ⟨es, rfl, h2⟩ := embs_of hl
    obtain ⟨e, rfl, hf, _⟩ := chk_fit (sizeX r) r 1 0 (chk r 1 0).2 (Nat.le_refl _) (by rw [← hr])
    refine ⟨e :: es, rfl, fun x hx => ?_⟩
    rcases List.mem_cons.1 hx with rfl | hx
    · exact hf
    · exact h2 x hx
theorem fit_size {e : Re} (h : Fit e 1 0) : e.size ≤ 100 := by have := h.sz; omega
theorem checkM_fit : ∀ {es : List Re}, (∀ e ∈ es, Fit e 1 0) → checkM (es.map emb) = 0
  | [], _ => rfl
  | e :: es, h => by
    have h1 : chkR (emb e) = 0 := by show (chk (emb e) 1 0).1 = 0; rw [fit_chk e 1 0 (h e (List.mem_cons_self ..))]
    rw [List.map_cons, checkM, if_neg (by simpa using h1)]
    exact checkM_fit fun x hx => h x (List.mem_cons_of_mem _ hx)
theorem loop_zero : ∀ (es : List Re) (i : Nat) (m : MS), (loopM i m es).1 ≠ 0 → (loopM i m es).2 = .zero
  | [], _, _, h => absurd rfl h
  | e :: r, i, m, h => by
    rw [loopM] at h ⊢
    split at h
    · rename_i c; rw [if_pos c]
    · rename_i c; rw [if_neg c]; exact loop_zero r _ _ h
/-- nothing with an error, or what the rules make -/
theorem makeR_two (rs : List Rx) : (∃ k : Int, k ≠ 0 ∧ MakeR rs (k, .zero)) ∨ ∃ (es : List Re) (m : MS), rs = es.map emb ∧ (∀ e ∈ es, Fit e 1 0) ∧ 0 < es.length ∧ es.length ≤ 20 ∧ loopM 0 .zero es = (0, m) ∧ MakeR rs (0, m) := by
  by_cases c : rs.length = 0 ∨ 20 < rs.length
  · exact .inl ⟨1, by decide, .inl ⟨c, rfl⟩⟩
  · by_cases h : checkM rs = 0
    · obtain ⟨es, h1, h2⟩ := embs_of h
      have hR : MakeR rs (loopM 0 .zero es) := .inr (.inr ⟨c, h, es, h1, fun e he => fit_size (h2 e he), rfl⟩)
      have hz := loop_zero es 0 .zero
      have hl : rs.length = es.length := by rw [h1, List.length_map]
      obtain ⟨k, m, e⟩ : ∃ k m, loopM 0 .zero es = (k, m) := ⟨_, _, rfl⟩
      rw [e] at hR hz
      by_cases h0 : k = 0
      · subst h0
        exact .inr ⟨es, m, h1, h2, by omega, by omega, e, hR⟩
      · obtain rfl : m = .zero := hz h0
        exact .inl ⟨k, h0, hR⟩
    · exact .inl ⟨checkM rs, h, .inr (.inl ⟨c, h, rfl⟩)⟩
theorem uni_one (x : Int) : uni [] [x] = [x] :=
  rising_ext (uni_law _ _).1 (List.pairwise_singleton _ _) fun y => by rw [(uni_law _ _).2]; simp
theorem byte_loop (c : C4) : loopM 0 .zero [.byte c] = (0, ⟨⟨[c], [0], [[]], [true]⟩, [0], [false]⟩) := by
  have e : stepM 0 .zero (.byte c) = ⟨⟨[c], [0], [[]], [true]⟩, [0], [false]⟩ := by
    simp [stepM, nodeF, MS.zero, markF, uni_one]
  rw [loopM, e]
  rfl
theorem letter_nz {b : Nat} (hb : b < 256) : rangeF b b ≠ C4.zero := fun h => by
  have h1 : (rangeF b b).mem b = true := by rw [range_mem _ _ _ hb, decide_eq_true_eq]; omega
  rw [h, zero_mem] at h1; cases h1
theorem make_fit {es : List Re} (h0 : es ≠ []) (h20 : es.length ≤ 20) (h : ∀ e ∈ es, Fit e 1 0) : MakeR (es.map emb) (loopM 0 .zero es) :=
  .inr (.inr ⟨by rw [List.length_map]; have := List.length_pos_iff.2 h0; omega, checkM_fit h, es, rfl, fun e he => fit_size (h e he), rfl⟩)
theorem make_byte {c : C4} (hc : c ≠ C4.zero) : MakeR [.mk 3 c []] (0, ⟨⟨[c], [0], [[]], [true]⟩, [0], [false]⟩) := by
  rw [← byte_loop c]
  exact make_fit (es := [.byte c]) (by simp) (by simp) fun e he => by rw [List.mem_singleton.1 he]; exact ⟨hc, by simp [Re.size], by simp [Re.hgt]⟩
/-- an own row is a slice -/
theorem row_sl {e : TypeId} {size n : Nat} {v : Value} {xs : List Value} (w : World) (h : (rowO e size v n xs).holds w) : ∃ a c, v = .slice a n c ∧ (0 < n → ∃ g, a = some ⟨g, 0, none⟩) := by
  rcases (show w.ownsRow 0 e size v n xs from h).2 with ⟨rfl, rfl⟩ | ⟨g, cap, cur, rfl, _⟩
  · exact ⟨_, _, rfl, fun h => by omega⟩
  · exact ⟨_, _, rfl, fun _ => ⟨g, rfl⟩⟩
/-- what Make made, as it can be read -/
theorem pos_slf {F : Nat → Prop} {v : Value} {vs : List Value} {fol : List (List Int)} {w : World} (hr : (folR v vs).holds w) (he : (folE F vs fol).holds w) (hl : vs.length = fol.length) : SlF (sliceS intS) (Low w) w v fol := by
  have hr' : w.ownsRow 0 24 1 v vs.length (vs.flatMap one1) := hr
  obtain ⟨base, cap, h1, h2, h3, h4⟩ := Sl.of_own hr'
  rw [hl] at h1 h2
  refine ⟨base, cap, h1, h2, h3, fun h0 => ?_⟩
  obtain ⟨b, off, h5, h6⟩ := h4 (by omega)
  rw [one1_flat] at h6
  refine ⟨b, off, h5, ?_, fun i hi => ⟨[vs[i]'(by omega)], ⟨vs[i]'(by omega), rfl, ?_⟩, fun j u hj => ?_⟩⟩
  · have := h6 0 _ (List.getElem?_eq_getElem (by omega))
    exact World.block_lt_of_cell? w _ this
  · have hs := fol_sl he hi (by omega)
    obtain ⟨⟨q1, q2⟩, q3⟩ := he
    obtain ⟨v', hv', hok, _, hF⟩ := q2 i hi (by rw [List.length_map]; omega)
    rw [List.getElem_map] at hv'
    simp only [one1, List.cons.injEq, and_true] at hv'
    rw [← int_flat] at hs
    refine SlF.of_flat hs hok (fun b hb => q3 b (hF b (by rw [← hv']; exact hb))) fun a n cp hv => q3 a.block (hF _ (by rw [← hv', hv]; rfl))
  · have hj0 : j = 0 := by have := (List.getElem?_eq_some_iff.1 hj).1; simp at this; exact this
    subst hj0
    have := h6 i u (by rw [List.getElem?_eq_getElem (by omega)]; exact hj)
    show w.cell? ⟨b, off + i * 1 + 0, none⟩ = some u
    rw [Nat.mul_one, Nat.add_zero]
    exact this
end Go.Proofs.YtndbaalenclgaaaDoor.eng

/- SmIe -/
namespace Go.Proofs.YtndbaalenclgaaaDoor.eng
open Go.RowKit kit mix
theorem SmIn_len (a : Int) : (kit.intC a).length = 1 := rfl
set_option maxHeartbeats 2000000 in
theorem equalSmIn_calls (v v' : Value) (l l' : List Int) (w : World) (hs : Sl w v l.length (l.flatMap kit.intC)) (hs' : Sl w v' l'.length (l'.flatMap kit.intC)) :
    Calls Tryd.prog 8 #[v, v'] w (Meets (ret (.bool (decide (l = l')))) w) := by
  obtain ⟨base, cap, rfl, hcap, hmax, hrd⟩ := hs
  obtain ⟨base', cap', rfl, hcap', hmax', hrd'⟩ := hs'
  unfold maxLen at hmax hmax'
  refine enter (args := [.slice base l.length cap, .slice base' l'.length cap']) (n := 26) Tryd.func8 rfl rfl rfl ?_
  by_cases c1 : l.length = l'.length
  · repeat (first
      | refine qv rfl (qp rfl) rfl rfl ?_ | refine TL_nil ?_ | refine T_seq ?_ | refine T_region ?_ | refine qcT rfl ?_ | refine qcF rfl ?_ | refine T_skip ?_
      | refine T_exit ?_ | refine T_ret ?_ | refine T_block ?_ | refine E_then ?_ | refine E_thenX ?_ | refine E_thenR ?_ | refine E_blockN ?_
      | refine E_blockR ?_ | refine E_blockX ?_ | refine E_blockO rfl ?_ | refine qv rfl (qlen Und.eq rfl) rfl rfl ?_
      | refine qv rfl (rr_lss rfl rfl (qT (by omega))) rfl rfl ?_ | refine qv rfl (rr_lss rfl rfl (qF (by omega))) rfl rfl ?_
      | refine qv rfl (rr_neq rfl rfl (qT (by omega))) rfl rfl ?_ | refine qv rfl (rr_neq rfl rfl (qF (by omega))) rfl rfl ?_
      | refine qv rfl (rr_add64 rfl rfl (by omega) (by omega) rfl) rfl rfl ?_)
    refine T_loop (ι := Nat) (fun k => k ≤ l.length ∧ l.take k = l'.take k) (fun k => [(0, .slice base l.length cap), (1, .slice base' l'.length cap'), (12, .int .i64 l.length), (13, .int .i64 (k : Int))]) (fun _ => []) (fun k => l.length - k) 0 ⟨by omega, rfl⟩ ⟨rfl, rfl, rfl, rfl, trivial⟩ rfl ?_
    rintro k ⟨h1, h2⟩
    by_cases c2 : k < l.length
    · obtain ⟨b, off, rfl, hr⟩ := hrd (by omega)
      obtain ⟨b', off', rfl, hr'⟩ := hrd' (by omega)
      have c2' : k < l'.length := by omega
      have hat := at_el (L := ([] : List Own)) SmIn_len hr c2
      have hat' := at_el (L := ([] : List Own)) SmIn_len hr' c2'
      have hv := hat 0 _ rfl
      have hv' := hat' 0 _ rfl
      clear hat hat'
      by_cases c3 : l[k] = l'[k]
      · repeat (first
          | refine qv rfl (qp rfl) rfl rfl ?_ | refine TL_nil ?_ | refine T_seq ?_ | refine T_region ?_ | refine qcT rfl ?_ | refine qcF rfl ?_ | refine T_skip ?_
          | refine T_exit ?_ | refine T_ret ?_ | refine T_block ?_ | refine E_then ?_ | refine E_thenX ?_ | refine E_thenR ?_ | refine E_blockN ?_
          | refine E_blockR ?_ | refine E_blockX ?_ | refine E_blockO rfl ?_ | refine qv rfl (qlen Und.eq rfl) rfl rfl ?_
          | refine qv rfl (rr_lss rfl rfl (qT (by omega))) rfl rfl ?_ | refine qv rfl (rr_lss rfl rfl (qF (by omega))) rfl rfl ?_
          | refine qv rfl (rr_neq rfl rfl (qT (by omega))) rfl rfl ?_ | refine qv rfl (rr_neq rfl rfl (qF (by omega))) rfl rfl ?_
          | refine qv rfl (rr_add64 rfl rfl (by omega) (by omega) rfl) rfl rfl ?_)
        refine T_draw 8 (List.replicate 8 true) rfl (by kernel_rfl) (by kernel_rfl) (by intro c a d v w h; cases d <;> exact h) ?_
        repeat (first
          | refine TM_valg rfl (qp rfl) rfl rfl ?_ | refine TM_valg rfl (rr_idxc Und.eq TyC.ty rfl rfl c2) rfl rfl ?_
          | refine TM_valg rfl (rr_idxc Und.eq TyC.ty rfl rfl c2') rfl rfl ?_ | refine TM_valg rfl (rr_load1 TyC.ty rfl hv) rfl rfl ?_
          | refine TM_valg rfl (rr_load1 TyC.ty rfl hv') rfl rfl ?_ | refine TM_valg rfl (qlen Und.eq rfl) rfl rfl ?_
          | refine TM_valg rfl (rr_lss rfl rfl (qT (by omega))) rfl rfl ?_ | refine TM_valg rfl (rr_lss rfl rfl (qF (by omega))) rfl rfl ?_
          | refine TM_valg rfl (rr_neq rfl rfl (qT (by omega))) rfl rfl ?_ | refine TM_valg rfl (rr_neq rfl rfl (qF (by omega))) rfl rfl ?_
          | refine TM_valg rfl (rr_add64 rfl rfl (by omega) (by omega) rfl) rfl rfl ?_ | refine TM_end ?_)
        repeat (first
          | refine qv rfl (qp rfl) rfl rfl ?_ | refine TL_nil ?_ | refine T_seq ?_ | refine T_region ?_ | refine qcT rfl ?_ | refine qcF rfl ?_ | refine T_skip ?_
          | refine T_exit ?_ | refine T_ret ?_ | refine T_block ?_ | refine E_then ?_ | refine E_thenX ?_ | refine E_thenR ?_ | refine E_blockN ?_
          | refine E_blockR ?_ | refine E_blockX ?_ | refine E_blockO rfl ?_ | refine qv rfl (rr_neq rfl rfl (decide_eq_false (by omega))) rfl rfl ?_
          | refine qv rfl (qlen Und.eq rfl) rfl rfl ?_ | refine qv rfl (rr_lss rfl rfl (qT (by omega))) rfl rfl ?_
          | refine qv rfl (rr_lss rfl rfl (qF (by omega))) rfl rfl ?_ | refine qv rfl (rr_neq rfl rfl (qT (by omega))) rfl rfl ?_
          | refine qv rfl (rr_neq rfl rfl (qF (by omega))) rfl rfl ?_ | refine qv rfl (rr_add64 rfl rfl (by omega) (by omega) rfl) rfl rfl ?_)
        exact E_round (k + 1) ⟨by omega, by rw [List.take_succ_eq_append_getElem c2, List.take_succ_eq_append_getElem c2', h2, c3]⟩ (by show l.length - (k + 1) < l.length - k; omega) ⟨rfl, rfl, rfl, rfl, trivial⟩ rfl
      · rw [decide_eq_false (fun h => c3 (by subst h; rfl))]
        repeat (first
          | refine qv rfl (qp rfl) rfl rfl ?_ | refine TL_nil ?_ | refine T_seq ?_ | refine T_region ?_ | refine qcT rfl ?_ | refine qcF rfl ?_ | refine T_skip ?_
          | refine T_exit ?_ | refine T_ret ?_ | refine T_block ?_ | refine E_then ?_ | refine E_thenX ?_ | refine E_thenR ?_ | refine E_blockN ?_
          | refine E_blockR ?_ | refine E_blockX ?_ | refine E_blockO rfl ?_ | refine qv rfl (qlen Und.eq rfl) rfl rfl ?_
          | refine qv rfl (rr_lss rfl rfl (qT (by omega))) rfl rfl ?_ | refine qv rfl (rr_lss rfl rfl (qF (by omega))) rfl rfl ?_
          | refine qv rfl (rr_neq rfl rfl (qT (by omega))) rfl rfl ?_ | refine qv rfl (rr_neq rfl rfl (qF (by omega))) rfl rfl ?_
          | refine qv rfl (rr_add64 rfl rfl (by omega) (by omega) rfl) rfl rfl ?_)
        refine T_draw 8 (List.replicate 8 true) rfl (by kernel_rfl) (by kernel_rfl) (by intro c a d v w h; cases d <;> exact h) ?_
        repeat (first
          | refine TM_valg rfl (qp rfl) rfl rfl ?_ | refine TM_valg rfl (rr_idxc Und.eq TyC.ty rfl rfl c2) rfl rfl ?_
          | refine TM_valg rfl (rr_idxc Und.eq TyC.ty rfl rfl c2') rfl rfl ?_ | refine TM_valg rfl (rr_load1 TyC.ty rfl hv) rfl rfl ?_
          | refine TM_valg rfl (rr_load1 TyC.ty rfl hv') rfl rfl ?_ | refine TM_valg rfl (qlen Und.eq rfl) rfl rfl ?_
          | refine TM_valg rfl (rr_lss rfl rfl (qT (by omega))) rfl rfl ?_ | refine TM_valg rfl (rr_lss rfl rfl (qF (by omega))) rfl rfl ?_
          | refine TM_valg rfl (rr_neq rfl rfl (qT (by omega))) rfl rfl ?_ | refine TM_valg rfl (rr_neq rfl rfl (qF (by omega))) rfl rfl ?_
          | refine TM_valg rfl (rr_add64 rfl rfl (by omega) (by omega) rfl) rfl rfl ?_ | refine TM_end ?_)
        repeat (first
          | refine qv rfl (qp rfl) rfl rfl ?_ | refine TL_nil ?_ | refine T_seq ?_ | refine T_region ?_ | refine qcT rfl ?_ | refine qcF rfl ?_ | refine T_skip ?_
          | refine T_exit ?_ | refine T_ret ?_ | refine T_block ?_ | refine E_then ?_ | refine E_thenX ?_ | refine E_thenR ?_ | refine E_blockN ?_
          | refine E_blockR ?_ | refine E_blockX ?_ | refine E_blockO rfl ?_ | refine qv rfl (rr_neq rfl rfl (decide_eq_true (by omega))) rfl rfl ?_
          | refine qv rfl (qlen Und.eq rfl) rfl rfl ?_ | refine qv rfl (rr_lss rfl rfl (qT (by omega))) rfl rfl ?_
          | refine qv rfl (rr_lss rfl rfl (qF (by omega))) rfl rfl ?_ | refine qv rfl (rr_neq rfl rfl (qT (by omega))) rfl rfl ?_
          | refine qv rfl (rr_neq rfl rfl (qF (by omega))) rfl rfl ?_ | refine qv rfl (rr_add64 rfl rfl (by omega) (by omega) rfl) rfl rfl ?_)
        exact E_ret1 rfl rfl fun w hm => hm.ret
    · have e : l = l' := by
        rw [List.take_of_length_le (by omega), List.take_of_length_le (by omega)] at h2; exact h2
      rw [decide_eq_true e]
      repeat (first
        | refine qv rfl (qp rfl) rfl rfl ?_ | refine TL_nil ?_ | refine T_seq ?_ | refine T_region ?_ | refine qcT rfl ?_ | refine qcF rfl ?_ | refine T_skip ?_
        | refine T_exit ?_ | refine T_ret ?_ | refine T_block ?_ | refine E_then ?_ | refine E_thenX ?_ | refine E_thenR ?_ | refine E_blockN ?_
        | refine E_blockR ?_ | refine E_blockX ?_ | refine E_blockO rfl ?_ | refine qv rfl (qlen Und.eq rfl) rfl rfl ?_
        | refine qv rfl (rr_lss rfl rfl (qT (by omega))) rfl rfl ?_ | refine qv rfl (rr_lss rfl rfl (qF (by omega))) rfl rfl ?_
        | refine qv rfl (rr_neq rfl rfl (qT (by omega))) rfl rfl ?_ | refine qv rfl (rr_neq rfl rfl (qF (by omega))) rfl rfl ?_
        | refine qv rfl (rr_add64 rfl rfl (by omega) (by omega) rfl) rfl rfl ?_)
      exact E_ret1 rfl rfl fun w hm => hm.ret
  · rw [decide_eq_false (fun h => c1 (by rw [h]))]
    repeat (first
      | refine qv rfl (qp rfl) rfl rfl ?_ | refine TL_nil ?_ | refine T_seq ?_ | refine T_region ?_ | refine qcT rfl ?_ | refine qcF rfl ?_ | refine T_skip ?_
      | refine T_exit ?_ | refine T_ret ?_ | refine T_block ?_ | refine E_then ?_ | refine E_thenX ?_ | refine E_thenR ?_ | refine E_blockN ?_
      | refine E_blockR ?_ | refine E_blockX ?_ | refine E_blockO rfl ?_ | refine qv rfl (qlen Und.eq rfl) rfl rfl ?_
      | refine qv rfl (rr_lss rfl rfl (qT (by omega))) rfl rfl ?_ | refine qv rfl (rr_lss rfl rfl (qF (by omega))) rfl rfl ?_
      | refine qv rfl (rr_neq rfl rfl (qT (by omega))) rfl rfl ?_ | refine qv rfl (rr_neq rfl rfl (qF (by omega))) rfl rfl ?_
      | refine qv rfl (rr_add64 rfl rfl (by omega) (by omega) rfl) rfl rfl ?_)
    exact E_ret1 rfl rfl fun w hm => hm.ret
end Go.Proofs.YtndbaalenclgaaaDoor.eng

/- BoE -/
namespace Go.Proofs.YtndbaalenclgaaaDoor.eng
open Go.RowKit kit mix
def boC (b : Bool) : List Value := [.bool b]
theorem BoE_len (a : Bool) : (boC a).length = 1 := rfl
end Go.Proofs.YtndbaalenclgaaaDoor.eng

/- PlE -/
namespace Go.Proofs.YtndbaalenclgaaaDoor.eng
open Go.RowKit kit mix classL placesL
theorem folS_sl {F : Nat → Prop} {w : World} {cs : List Value} {l : List Int} (h : (sliceS intS).is F w cs l) : ∃ v, cs = [v] ∧ Sl w v l.length (l.flatMap kit.intC) := by
  obtain ⟨v, h1, h2⟩ := h
  exact ⟨v, h1, h2.flat (by decide)⟩
theorem slii_gr {w w' : World} {v : Value} {l : List (List Int)} (h : SlF (sliceS intS) (Low w) w v l) (hg : Gr w w') : SlF (sliceS intS) (Low w') w' v l :=
  (h.stay fun k hk => hg.block k hk).mono fun k hk => Nat.lt_of_lt_of_le hk hg.size
/-- a Posn that can be read -/
def PosR (w : World) (v : Value) (m : MS) : Prop :=
  ∃ vc vr vf vfol vl ve, v = .agg #[vc, vr, vf, vfol, vl, ve] ∧ Sl w vc m.ps.classes.length (m.ps.classes.flatMap clsL) ∧ Sl w vr m.ps.rules.length (m.ps.rules.flatMap kit.intC) ∧ Sl w vf m.first.length (m.first.flatMap kit.intC) ∧
    SlF (sliceS intS) (Low w) w vfol m.ps.follow ∧ Sl w vl m.ps.last.length (m.ps.last.flatMap boC) ∧ Sl w ve m.empty.length (m.empty.flatMap boC)
theorem PosR.gr {w w' : World} {v : Value} {m : MS} (h : PosR w v m) (hg : Gr w w') : PosR w' v m := by
  obtain ⟨vc, vr, vf, vfol, vl, ve, h0, h1, h2, h3, h4, h5, h6⟩ := h
  exact ⟨vc, vr, vf, vfol, vl, ve, h0, h1.gr hg, h2.gr hg, h3.gr hg, slii_gr h4 hg, h5.gr hg, h6.gr hg⟩
end Go.Proofs.YtndbaalenclgaaaDoor.eng

