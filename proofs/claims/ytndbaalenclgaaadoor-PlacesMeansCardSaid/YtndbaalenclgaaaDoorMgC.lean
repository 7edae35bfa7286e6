/- Part 3 of what PlacesMeans needs: RexN, KeyG, SmL, ClassT, RexM, LookOk, RexE, RexPl, RexP, RexW, SortC, SortI, PlacesL, IntO, IntK, PlU, PlB. -/
import Derived.Test.YtndbaalenclgaaaDoorMgB
import Derived.WalkKit
import Derived.WalkSpells
import Derived.WalkLawsBesides
import Derived.Deep.RegionLaw
import Derived.Deep.AppendLies
import Derived.Deep.QuietTactic
import Derived.BigQuiet
import Derived.Deep.DeepCutAuto
import Derived.Lib.Hide
import Derived.Test.YtndbaalenclgaaaDoorRows
import Derived.ProofKit
import Derived.OpenShut
import Derived.ShutString
import Derived.SizedLaws
import Derived.JoinedCond
import Derived.Deep.CondSized
import Derived.Deep.Quiet
import Derived.StillTail
import Derived.Deep.LoopGhost
import Derived.Laws.BitsLemmas
import Derived.Laws.BytesString
import Derived.Test.YtndbaalenclgaaaDoorProg
import Derived.Laws.Entries
import Derived.Laws.BitsAllLaws
import Derived.Laws.StructEq
import Derived.ChangeKeysEq
import Derived.Lib.TrailingZeros
import Derived.Laws.MakeOwn
import Derived.Laws.AppendOwn
import Derived.Laws.Bits64b
import Derived.Handed
import Derived.Lay
import Derived.Lib.LaidTab
import Derived.MakeChecks
import Derived.Maps.OwnSet
import Derived.DeepKeys4
import Derived.WideKeyEntry
import Derived.Shelf.Sort.Plain
import Derived.Ground.Names2Prog
import Derived.Shelf.Slices.CompactI
import Derived.Shelf.Slices.In.SortNone
import Derived.Lib.RowBridge
import Derived.Lib.SlicesCompact
/- RexN -/
namespace Go.Proofs.YtndbaalenclgaaaDoor.eng
open Go.RowKit kit mix classL rexL
def nJ (r : Re) (n j : Nat) : Nat := n + 1 + ((r.kids.take j).map Re.size).sum
theorem nJ_0 (r : Re) (n : Nat) : nJ r n 0 = n + 1 := by simp [nJ]
theorem nJ_next (r : Re) (n : Nat) {j : Nat} (h : j < r.kids.length) : nJ r n (j + 1) = nJ r n j + r.kids[j].size := by
  unfold nJ
  rw [List.take_succ_eq_append_getElem h, List.map_append, List.sum_append]; simp; omega
theorem nJ_all (r : Re) (n : Nat) : nJ r n r.kids.length = n + r.size := by
  unfold nJ
  rw [List.take_length]
  cases r <;> simp [Re.kids, Re.size] <;> omega
theorem nJ_le (r : Re) (n : Nat) {j : Nat} (h : j < r.kids.length) : nJ r n j + r.kids[j].size ≤ n + r.size := by
  rw [← nJ_next r n h]
  cases r with
  | cat a b => match j, h with
    | 0, _ => simp [nJ, Re.kids, Re.size]; omega
    | 1, _ => simp [nJ, Re.kids, Re.size]; omega
  | alt a b => match j, h with
    | 0, _ => simp [nJ, Re.kids, Re.size]; omega
    | 1, _ => simp [nJ, Re.kids, Re.size]; omega
  | star a => match j, h with
    | 0, _ => simp [nJ, Re.kids, Re.size]; omega
  | none => simp [Re.kids] at h
  | empty => simp [Re.kids] at h
  | byte c => simp [Re.kids] at h
theorem kidsK_at (r : Re) (n : Nat) {j : Nat} (h : j < r.kids.length) : (kidsK r n)[j]'(by rw [kidsK_len]; exact h) = (r.kids[j], nJ r n j) := by
  cases r with
  | cat a b => match j, h with
    | 0, _ => rfl
    | 1, _ => simp [kidsK, nJ, Re.kids]
  | alt a b => match j, h with
    | 0, _ => rfl
    | 1, _ => simp [kidsK, nJ, Re.kids]
  | star a => match j, h with
    | 0, _ => rfl
  | none => simp [Re.kids] at h
  | empty => simp [Re.kids] at h
  | byte c => simp [Re.kids] at h
theorem kid_size {r : Re} {j : Nat} (h : j < r.kids.length) : r.kids[j].size < r.size := by
  have := nJ_le r 0 h
  unfold nJ at this
  omega
/-- numbered kids, owned -/
def nkO (F : Nat → Prop) (v : Value) (l : List (Re × Nat)) : Own := shpO (sliceS numS) F [v] l
theorem nkO_one {F : Nat → Prop} {v : Value} {l : List (Re × Nat)} {w : World} (h : (nkO F v l).holds w) : v.oneCell' = true ∧ v.cells = #[v] := by
  obtain ⟨⟨v', hv, h3⟩, h4⟩ := h
  simp only [List.cons.injEq, and_true] at hv
  subst hv
  obtain ⟨b, c, rfl, _⟩ := h3
  exact ⟨rfl, rfl⟩
theorem numC_one {r : Re} {k : Nat} {vk v : Value} (h1 : vk.oneCell' = true) (h2 : v.oneCell' = true) : (numC r k vk v).all Value.oneCell' = true := by
  simp [numC, clsL, h1, h2]; exact ⟨rfl, rfl, rfl, rfl, rfl, rfl⟩
theorem kids_two (r : Re) : r.kids.length ≤ 2 := by cases r <;> simp [Re.kids]
theorem rkid_emb {F : Nat → Prop} {w : World} {b off : Nat} {l : List Re} (h : ∀ i (h : i < (l.map emb).length), ∃ cs, rexS.is F w cs (l.map emb)[i] ∧ Rd w b (off + i * rexS.c) cs) {j : Nat} (hj : j < l.length) :
    ∃ base cap, Rd w b (off + j * 6) (rexC l[j].kind l[j].cls (.slice base l[j].kids.length cap)) ∧ kit.okI64 l[j].kind ∧ SlF rexS F w (.slice base l[j].kids.length cap) (l[j].kids.map emb) := by
  obtain ⟨cs, h1, hr⟩ := h j (by rw [List.length_map]; exact hj)
  rw [List.getElem_map, emb_eq] at h1
  obtain ⟨vk, rfl, a1, a2⟩ := rex_iff.1 (show RexIs F w cs _ from h1)
  have a2' := a2
  obtain ⟨base, cap, rfl, _⟩ := a2'
  have el : (l[j].kids.map emb).length = l[j].kids.length := List.length_map ..
  refine ⟨base, cap, ?_, a1, ?_⟩
  · rw [← el]; exact hr
  · rw [← el]; exact a2
def numSp (gn : Nat) (r : Re) (n : Nat) (vk : Value) : Spec (Value × (Nat → Prop)) := ⟨fun _ => True, fun x => .agg (numC r n vk x.1).toArray, fun x => [blkO gn #[.int .i64 ((n + r.size : Nat) : Int)] 3, nkO x.2 x.1 (kidsK r n)]⟩
theorem build_num (k : Int) (c : C4) (b : Option Addr) (l cap : Nat) (n : Nat) (w : World) : (Instr.build 78 #[(0, rexV k c (.slice b l cap)), (1, .int .i64 (n : Int))]).run Tryd.prog w = .ok (.agg (rexC k c (.slice b l cap) ++ ([.int .i64 (n : Int), .slice none 0 0] : List Value)).toArray) w := by kernel_rfl
set_option maxRecDepth 100000 in
attribute [local irreducible] Instr.build in
set_option maxHeartbeats 16000000 in
theorem number_calls (w0 : World) (gn : Nat) : ∀ (N : Nat) (r : Re), r.size ≤ N → ∀ (vk : Value) (n : Nat) (w : World) (B : Base), kit.okI64 r.kind → SlF rexS (Low w0) w0 vk (r.kids.map emb) → n + r.size ≤ 100 → Old w0 B → Mem B [blkO gn #[.int .i64 (n : Int)] 3] w →
    Calls Tryd.prog 30 #[rexV r.kind r.cls vk, .pointer (some ⟨gn, 0, none⟩)] w (MeetsB (numSp gn r n vk) B)
  | 0, r, h, _, _, _, _, _, _, _, _, _ => by have := r.size_pos; omega
  | N + 1, r, hN, vk, n, w, B, hk64, hks, hn, ho, hm => by
    have IH := number_calls w0 gn N
    obtain ⟨bk, ck, rfl, hck, hmk, hrk⟩ := hks
    unfold maxLen at hmk
    rw [List.length_map] at hck ⊢
    have hrk := fun h0 => hrk (by rw [List.length_map]; exact h0)
    have hpos := r.size_pos
    have hk2 := kids_two r
    have hbn := build_num r.kind r.cls bk r.kids.length ck n
    refine enterB hm (args := [rexV r.kind r.cls (.slice bk r.kids.length ck), .pointer (some ⟨gn, 0, none⟩)]) (n := 35) Tryd.func30 rfl rfl rfl ?_
    clear hm
    refine T_seq (T_region (TL_box rfl rfl rfl fun g2 => TL_new rfl fun g4 => ?_))
    conv => arg 8; simp only [zA, zB, zC, zD, zE, zF, zG, zH, zI, rowS, ret, id_eq]
    repeat (first
      | refine qv rfl (qp rfl) rfl rfl ?_ | refine TL_nil ?_ | refine T_seq ?_ | refine T_region ?_ | refine qcT rfl ?_ | refine qcF rfl ?_ | refine T_skip ?_
      | refine T_exit ?_ | refine T_ret ?_ | refine T_block ?_ | refine E_then ?_ | refine E_thenX ?_ | refine E_thenR ?_ | refine E_blockN ?_
      | refine E_blockR ?_ | refine E_blockX ?_ | refine E_blockO rfl ?_ | refine qv rfl (qlen Und.eq rfl) rfl rfl ?_
      | refine qv rfl (qfld FldC.fld rfl rfl) rfl rfl ?_ | refine qv rfl (rr_nilc rfl) rfl rfl ?_ | refine qv rfl (rr_lss rfl rfl (qT (by omega))) rfl rfl ?_
      | refine qv rfl (rr_lss rfl rfl (qF (by omega))) rfl rfl ?_ | refine qv rfl (rr_add64 rfl rfl (by omega) (by omega) rfl) rfl rfl ?_)
    (repeat refine T_seq ?_)
    refine T_ord ([blkO gn #[.int .i64 (n : Int)] 3, blkO g2 (rexC r.kind r.cls (.slice bk r.kids.length ck)).toArray 36]) (.calm 0 (.calm 1 (.calm 2 (.calm 3 (.calm 4 (.one 5 (.one 6 (.done)))))))) (sub_pick [0, 1] (by decide) rfl) (by kernel_rfl) (by kernel_rfl) (by intro c a d v w h; cases d <;> exact h) ?_
    repeat (first
      | ((first | refine TW_plain rfl rfl ?_ | refine TW_gmet rfl rfl rfl rfl ?_); first | refine TN_val (qp rfl) rfl rfl ?_ | refine TN_val (rr_loadB (i := 1) TyC.ty rfl rfl rfl) rfl rfl ?_ | refine TN_val (rr_nilc rfl) rfl rfl ?_ | refine TN_val (rr_load1 TyC.ty rfl (at_blk (i := 0) rfl rfl)) rfl rfl ?_ | refine TN_val (rr_build rfl hbn) rfl rfl ?_ | refine TN_val (qlen Und.eq rfl) rfl rfl ?_ | refine TN_val (qfld FldC.fld rfl rfl) rfl rfl ?_ | refine TN_val (rr_nilc rfl) rfl rfl ?_ | refine TN_val (rr_lss rfl rfl (qT (by omega))) rfl rfl ?_ | refine TN_val (rr_lss rfl rfl (qF (by omega))) rfl rfl ?_ | refine TN_val (rr_add64 rfl rfl (by omega) (by omega) rfl) rfl rfl ?_)
      | refine TW_done ?_)
    refine TW_one rfl (TL_new rfl fun g5 => TW_on (sub_pick [0, 1] (by decide) rfl) ?_)
    refine TW_one rfl (TL_storeB (i := 3) rfl rfl rfl rfl (numC_one (r := r) (k := n) rfl rfl) rfl (TW_on (sub_pick [0, 1] (by decide) rfl) ?_))
    repeat (first
      | ((first | refine TW_plain rfl rfl ?_ | refine TW_gmet rfl rfl rfl rfl ?_); first | refine TN_val (qp rfl) rfl rfl ?_ | refine TN_val (qlen Und.eq rfl) rfl rfl ?_ | refine TN_val (qfld FldC.fld rfl rfl) rfl rfl ?_ | refine TN_val (rr_nilc rfl) rfl rfl ?_ | refine TN_val (rr_lss rfl rfl (qT (by omega))) rfl rfl ?_ | refine TN_val (rr_lss rfl rfl (qF (by omega))) rfl rfl ?_ | refine TN_val (rr_add64 rfl rfl (by omega) (by omega) rfl) rfl rfl ?_)
      | refine TW_done ?_)
    repeat (first
      | refine qv rfl (qp rfl) rfl rfl ?_ | refine TL_nil ?_ | refine T_seq ?_ | refine T_region ?_ | refine qcT rfl ?_ | refine qcF rfl ?_ | refine T_skip ?_
      | refine T_exit ?_ | refine T_ret ?_ | refine T_block ?_ | refine E_then ?_ | refine E_thenX ?_ | refine E_thenR ?_ | refine E_blockN ?_
      | refine E_blockR ?_ | refine E_blockX ?_ | refine E_blockO rfl ?_ | refine qv rfl (rr_nilc rfl) rfl rfl ?_
      | refine qv rfl (rr_load1 TyC.ty rfl (at_blk (i := 0) rfl rfl)) rfl rfl ?_
      | refine qv rfl (rr_add64 (r := ((n + 1 : Nat) : Int)) rfl rfl (by omega) (by omega) (by omega)) rfl rfl ?_ | refine qv rfl (qlen Und.eq rfl) rfl rfl ?_
      | refine qv rfl (qfld FldC.fld rfl rfl) rfl rfl ?_ | refine qv rfl (rr_nilc rfl) rfl rfl ?_ | refine qv rfl (rr_lss rfl rfl (qT (by omega))) rfl rfl ?_
      | refine qv rfl (rr_lss rfl rfl (qF (by omega))) rfl rfl ?_ | refine qv rfl (rr_add64 rfl rfl (by omega) (by omega) rfl) rfl rfl ?_)
    refine TL_store1 (i := 0) rfl rfl rfl rfl rfl rfl ?_
    conv => arg 8; simp only [zA, zB, zC, zD, zE, zF, zG, zH, zI, rowS, ret, id_eq]
    repeat (first
      | refine qv rfl (qp rfl) rfl rfl ?_ | refine TL_nil ?_ | refine T_seq ?_ | refine T_region ?_ | refine qcT rfl ?_ | refine qcF rfl ?_ | refine T_skip ?_
      | refine T_exit ?_ | refine T_ret ?_ | refine T_block ?_ | refine E_then ?_ | refine E_thenX ?_ | refine E_thenR ?_ | refine E_blockN ?_
      | refine E_blockR ?_ | refine E_blockX ?_ | refine E_blockO rfl ?_ | refine qv rfl (rr_load1 TyC.ty rfl (at_blk (i := 1) rfl rfl)) rfl rfl ?_
      | refine qv rfl (qlen Und.eq rfl) rfl rfl ?_ | refine qv rfl (qfld FldC.fld rfl rfl) rfl rfl ?_ | refine qv rfl (rr_nilc rfl) rfl rfl ?_
      | refine qv rfl (rr_lss rfl rfl (qT (by omega))) rfl rfl ?_ | refine qv rfl (rr_lss rfl rfl (qF (by omega))) rfl rfl ?_
      | refine qv rfl (rr_add64 rfl rfl (by omega) (by omega) rfl) rfl rfl ?_)
    refine T_nil 78 8 (T_extra (elsO numS (fun _ => False) [] []) (fun k hk => hk.elim (fun h => by cases h) id) (fun w => els_nil) ?_)
    refine T_pick [0, 2, 3, 4, 5] (by decide) rfl ?_
    refine T_loop (ι := Nat × Value × List (List Value) × (Nat → Prop)) (fun (j, v, css, _) => j ≤ r.kids.length ∧ v.oneCell' = true) (fun (j, v, _, _) => [(1, .pointer (some ⟨gn, 0, none⟩)), (4, .pointer (some ⟨g4, 0, none⟩)), (5, .pointer (some ⟨g5, 0, none⟩)), (19, .slice bk r.kids.length ck), (20, .int .i64 (r.kids.length : Int)), (21, .int .i64 (j : Int))])
      (fun (j, v, css, F) => [blkO gn #[.int .i64 ((nJ r n j : Nat) : Int)] 3, blkO g4 (rexC 0 C4.zero (.slice none 0 0) ++ ([.int .i64 0, .slice none 0 0] : List Value)).toArray 78, blkO g5 (numC r n (.slice bk r.kids.length ck) v).toArray 78, rowO 78 8 v j css.flatten, elsO numS F css ((kidsK r n).take j)]) (fun (j, _, _, _) => r.kids.length - j) (0, .slice none 0 0, [], fun _ => False) ⟨Nat.zero_le _, rfl⟩ (by repeat' (first | exact True.intro | refine And.intro rfl ?_)) (by dsimp only; rw [nJ_0]; rfl) ?_
    rintro ⟨j, v, css, F⟩ ⟨i1, i2⟩
    dsimp only at i1 i2 ⊢
    by_cases c1 : j < r.kids.length
    · obtain ⟨b, off, rfl, _, hr⟩ := hrk (by omega)
      obtain ⟨bj, cj, hrd, hkk, hkr⟩ := rkid_emb hr c1
      have hat := fun (L : List Own) j v hj => at_oldR (L := L) ho hrd j v hj
      have hnx := nJ_next r n c1
      have hnl := nJ_le r n c1
      have hks := kid_size c1
      have htk : (kidsK r n).take (j + 1) = (kidsK r n).take j ++ [(r.kids[j], nJ r n j)] := by
        have e := kidsK_at r n c1
        rw [List.take_succ_eq_append_getElem (by rw [kidsK_len]; exact c1), e]
      generalize r.kids[j] = e at *
      generalize nJ r n j = q at *
      generalize hm' : e.kids.length = m at *
      repeat (first
        | refine qv rfl (qp rfl) rfl rfl ?_ | refine TL_nil ?_ | refine T_seq ?_ | refine T_region ?_ | refine qcT rfl ?_ | refine qcF rfl ?_ | refine T_skip ?_
        | refine T_exit ?_ | refine T_ret ?_ | refine T_block ?_ | refine E_then ?_ | refine E_thenX ?_ | refine E_thenR ?_ | refine E_blockN ?_
        | refine E_blockR ?_ | refine E_blockX ?_ | refine E_blockO rfl ?_ | refine qv rfl (rr_idxc (j := j) Und.eq TyC.ty rfl rfl c1) rfl rfl ?_
        | refine qv rfl (rr_loadN TyC.ty rfl rfl (hat _)) rfl rfl ?_ | refine qv rfl (qlen Und.eq rfl) rfl rfl ?_
        | refine qv rfl (qfld FldC.fld rfl rfl) rfl rfl ?_ | refine qv rfl (rr_nilc rfl) rfl rfl ?_ | refine qv rfl (rr_lss rfl rfl (qT (by omega))) rfl rfl ?_
        | refine qv rfl (rr_lss rfl rfl (qF (by omega))) rfl rfl ?_ | refine qv rfl (rr_add64 rfl rfl (by omega) (by omega) rfl) rfl rfl ?_)
      refine TL_new rfl fun g7 => ?_
      conv => arg 8; simp only [zA, zB, zC, zD, zE, zF, zG, zH, zI, rowS, ret, id_eq]
      refine TL_storeB (i := 5) (cs' := (rexC e.kind e.cls (.slice bj m cj)).toArray) rfl rfl rfl rfl rfl rfl ?_
      conv => arg 8; simp only [zA, zB, zC, zD, zE, zF, zG, zH, zI, rowS, ret, id_eq]
      repeat (first
        | refine qv rfl (qp rfl) rfl rfl ?_ | refine TL_nil ?_ | refine T_seq ?_ | refine T_region ?_ | refine qcT rfl ?_ | refine qcF rfl ?_ | refine T_skip ?_
        | refine T_exit ?_ | refine T_ret ?_ | refine T_block ?_ | refine E_then ?_ | refine E_thenX ?_ | refine E_thenR ?_ | refine E_blockN ?_
        | refine E_blockR ?_ | refine E_blockX ?_ | refine E_blockO rfl ?_ | refine qv rfl (qlen Und.eq rfl) rfl rfl ?_
        | refine qv rfl (qfld FldC.fld rfl rfl) rfl rfl ?_ | refine qv rfl (rr_nilc rfl) rfl rfl ?_ | refine qv rfl (rr_lss rfl rfl (qT (by omega))) rfl rfl ?_
        | refine qv rfl (rr_lss rfl rfl (qF (by omega))) rfl rfl ?_ | refine qv rfl (rr_add64 rfl rfl (by omega) (by omega) rfl) rfl rfl ?_)
      (repeat refine T_seq ?_)
      refine T_ord ([blkO g7 (rexC e.kind e.cls (.slice bj m cj)).toArray 36]) (.calm 0 (.calm 2 (.calm 3 (.two 1 (.one 4 (.one 5 (.one 6 (.calm 7 (.one 8 (.done)))))) 4 (.two 1 (.one 5 (.one 6 (.calm 7 (.one 8 (.done))))) 5 (.one 1 (.one 6 (.calm 7 (.one 8 (.done)))))))))) (sub_pick [5] (by decide) rfl) (by kernel_rfl) (by kernel_rfl) (by intro c a d v w h; cases d <;> exact h) ?_
      repeat (first
        | ((first | refine TW_plain rfl rfl ?_ | refine TW_gmet rfl rfl rfl rfl ?_); first | refine TN_val (qp rfl) rfl rfl ?_ | refine TN_val (rr_loadB (i := 0) TyC.ty rfl rfl rfl) rfl rfl ?_ | refine TN_val (qlen Und.eq rfl) rfl rfl ?_ | refine TN_val (qfld FldC.fld rfl rfl) rfl rfl ?_ | refine TN_val (rr_nilc rfl) rfl rfl ?_ | refine TN_val (rr_lss rfl rfl (qT (by omega))) rfl rfl ?_ | refine TN_val (rr_lss rfl rfl (qF (by omega))) rfl rfl ?_ | refine TN_val (rr_add64 rfl rfl (by omega) (by omega) rfl) rfl rfl ?_)
        | refine TW_done ?_)
      refine TW_two rfl rfl ?_ ?_
      · refine TL_val (rr_load1 TyC.ty rfl (at_blk (i := 2) rfl (v := v) rfl)) rfl rfl rfl (TW_on (sub_pick [5] (by decide) rfl) ?_)
        refine TW_one rfl (TL_callB [0] [1, 2, 3, 4, 5] (by decide) rfl rfl (he2 EntersC.en rfl rfl rfl) (fun w hm hb => IH e (by omega) (.slice bj m cj) q w _ hkk hkr (by omega) (ho.on hm (by intro o ho; simp at ho ⊢; simp [ho])) hb) rfl rfl rfl ?_)
        rintro ⟨vm, F2⟩ _
        conv => arg 8; simp only [zA, zB, zC, zD, zE, zF, zG, zH, zI, rowS, ret, id_eq, numSp]
        refine TL_know (i := 6) (φ := vm.oneCell' = true ∧ vm.cells = #[vm]) rfl (fun w h => nkO_one h) fun hvm => ?_
        refine TW_on (sub_pick [4] (by decide) rfl) ?_
        refine TW_one rfl (TL_one (cs := (numC e q (.slice bj m cj) vm).toArray) rfl rfl rfl rfl rfl fun g30 => ?_)
        conv => arg 8; simp only [zA, zB, zC, zD, zE, zF, zG, zH, zI, rowS, ret, id_eq]
        refine TW_on (sub_pick [4] (by decide) rfl) ?_
        refine TW_one rfl ?_
        refine TL_app1 (i := 2) (q := 7) rfl rfl rfl rfl rfl (numC_one rfl hvm.1) (by omega) (by omega) rfl fun v' => ?_
        conv => arg 8; simp only [zA, zB, zC, zD, zE, zF, zG, zH, zI, rowS, ret, id_eq]
        refine TL_slv (i := 2) rfl fun hv1 hv2 => ?_
        refine TW_on (sub_pick [4] (by decide) rfl) ?_
        repeat (first
          | ((first | refine TW_plain rfl rfl ?_ | refine TW_gmet rfl rfl rfl rfl ?_); first | refine TN_val (qp rfl) rfl rfl ?_ | refine TN_val (qlen Und.eq rfl) rfl rfl ?_ | refine TN_val (qfld FldC.fld rfl rfl) rfl rfl ?_ | refine TN_val (rr_nilc rfl) rfl rfl ?_ | refine TN_val (rr_lss rfl rfl (qT (by omega))) rfl rfl ?_ | refine TN_val (rr_lss rfl rfl (qF (by omega))) rfl rfl ?_ | refine TN_val (rr_add64 rfl rfl (by omega) (by omega) rfl) rfl rfl ?_)
          | refine TW_done ?_)
        refine TW_one rfl (TL_store1 (i := 1) rfl rfl rfl hv1 hv2 rfl ?_)
        conv => arg 8; simp only [zA, zB, zC, zD, zE, zF, zG, zH, zI, rowS, ret, id_eq]
        refine TW_on (sub_pick [4] (by decide) rfl) ?_
        repeat (first
          | ((first | refine TW_plain rfl rfl ?_ | refine TW_gmet rfl rfl rfl rfl ?_); first | refine TN_val (qp rfl) rfl rfl ?_ | refine TN_val (qlen Und.eq rfl) rfl rfl ?_ | refine TN_val (qfld FldC.fld rfl rfl) rfl rfl ?_ | refine TN_val (rr_nilc rfl) rfl rfl ?_ | refine TN_val (rr_lss rfl rfl (qT (by omega))) rfl rfl ?_ | refine TN_val (rr_lss rfl rfl (qF (by omega))) rfl rfl ?_ | refine TN_val (rr_add64 rfl rfl (by omega) (by omega) rfl) rfl rfl ?_)
          | refine TW_done ?_)
        repeat (first
          | refine qv rfl (qp rfl) rfl rfl ?_ | refine TL_nil ?_ | refine T_seq ?_ | refine T_region ?_ | refine qcT rfl ?_ | refine qcF rfl ?_ | refine T_skip ?_
          | refine T_exit ?_ | refine T_ret ?_ | refine T_block ?_ | refine E_then ?_ | refine E_thenX ?_ | refine E_thenR ?_ | refine E_blockN ?_
          | refine E_blockR ?_ | refine E_blockX ?_ | refine E_blockO rfl ?_ | refine qv rfl (qlen Und.eq rfl) rfl rfl ?_
          | refine qv rfl (qfld FldC.fld rfl rfl) rfl rfl ?_ | refine qv rfl (rr_nilc rfl) rfl rfl ?_ | refine qv rfl (rr_lss rfl rfl (qT (by omega))) rfl rfl ?_
          | refine qv rfl (rr_lss rfl rfl (qF (by omega))) rfl rfl ?_ | refine qv rfl (rr_add64 rfl rfl (by omega) (by omega) rfl) rfl rfl ?_)
        refine E_merge (elsO numS (fun k => F k ∨ F2 k) (css ++ [numC e q (.slice bj m cj) vm]) ((kidsK r n).take j ++ [(e, q)])) 6 3 [5, 0, 1, 2] (by decide) rfl rfl rfl (fun k hk => hk.elim (fun h => by cases h) fun h => h.elim (fun h => .inr (.inr h)) fun h => .inl (.inr h)) (fun w hk he => ?_) ?_
        · obtain ⟨⟨v'', hv, h5⟩, h6⟩ := hk
          simp only [List.cons.injEq, and_true] at hv
          subst hv
          exact els_snoc he (num_iff.2 ⟨_, vm, rfl, rfl, h5⟩) h6
        exact E_round (j + 1, v', css ++ [numC e q (.slice bj m cj) vm], fun k => F k ∨ F2 k) ⟨by show j + 1 ≤ r.kids.length; omega, hv2⟩ (by show r.kids.length - (j + 1) < r.kids.length - j; omega) (by repeat' (first | exact True.intro | refine And.intro rfl ?_)) (by dsimp only; rw [hnx, htk, List.flatten_append]; rfl)
      · refine TL_callB [0] [1, 2, 3, 4, 5] (by decide) rfl rfl (he2 EntersC.en rfl rfl rfl) (fun w hm hb => IH e (by omega) (.slice bj m cj) q w _ hkk hkr (by omega) (ho.on hm (by intro o ho; simp at ho ⊢; simp [ho])) hb) rfl rfl rfl ?_
        rintro ⟨vm, F2⟩ _
        conv => arg 8; simp only [zA, zB, zC, zD, zE, zF, zG, zH, zI, rowS, ret, id_eq, numSp]
        refine TL_know (i := 6) (φ := vm.oneCell' = true ∧ vm.cells = #[vm]) rfl (fun w h => nkO_one h) fun hvm => ?_
        refine TW_on (sub_pick [4] (by decide) rfl) ?_
        refine TW_two rfl rfl ?_ ?_
        · refine TL_val (rr_load1 TyC.ty rfl (at_blk (i := 1) rfl (v := v) rfl)) rfl rfl rfl (TW_on (sub_pick [4] (by decide) rfl) ?_)
          refine TW_one rfl (TL_one (cs := (numC e q (.slice bj m cj) vm).toArray) rfl rfl rfl rfl rfl fun g30 => ?_)
          conv => arg 8; simp only [zA, zB, zC, zD, zE, zF, zG, zH, zI, rowS, ret, id_eq]
          refine TW_on (sub_pick [4] (by decide) rfl) ?_
          refine TW_one rfl ?_
          refine TL_app1 (i := 2) (q := 7) rfl rfl rfl rfl rfl (numC_one rfl hvm.1) (by omega) (by omega) rfl fun v' => ?_
          conv => arg 8; simp only [zA, zB, zC, zD, zE, zF, zG, zH, zI, rowS, ret, id_eq]
          refine TL_slv (i := 2) rfl fun hv1 hv2 => ?_
          refine TW_on (sub_pick [4] (by decide) rfl) ?_
          repeat (first
            | ((first | refine TW_plain rfl rfl ?_ | refine TW_gmet rfl rfl rfl rfl ?_); first | refine TN_val (qp rfl) rfl rfl ?_ | refine TN_val (qlen Und.eq rfl) rfl rfl ?_ | refine TN_val (qfld FldC.fld rfl rfl) rfl rfl ?_ | refine TN_val (rr_nilc rfl) rfl rfl ?_ | refine TN_val (rr_lss rfl rfl (qT (by omega))) rfl rfl ?_ | refine TN_val (rr_lss rfl rfl (qF (by omega))) rfl rfl ?_ | refine TN_val (rr_add64 rfl rfl (by omega) (by omega) rfl) rfl rfl ?_)
            | refine TW_done ?_)
          refine TW_one rfl (TL_store1 (i := 1) rfl rfl rfl hv1 hv2 rfl ?_)
          conv => arg 8; simp only [zA, zB, zC, zD, zE, zF, zG, zH, zI, rowS, ret, id_eq]
          refine TW_on (sub_pick [4] (by decide) rfl) ?_
          repeat (first
            | ((first | refine TW_plain rfl rfl ?_ | refine TW_gmet rfl rfl rfl rfl ?_); first | refine TN_val (qp rfl) rfl rfl ?_ | refine TN_val (qlen Und.eq rfl) rfl rfl ?_ | refine TN_val (qfld FldC.fld rfl rfl) rfl rfl ?_ | refine TN_val (rr_nilc rfl) rfl rfl ?_ | refine TN_val (rr_lss rfl rfl (qT (by omega))) rfl rfl ?_ | refine TN_val (rr_lss rfl rfl (qF (by omega))) rfl rfl ?_ | refine TN_val (rr_add64 rfl rfl (by omega) (by omega) rfl) rfl rfl ?_)
            | refine TW_done ?_)
          repeat (first
            | refine qv rfl (qp rfl) rfl rfl ?_ | refine TL_nil ?_ | refine T_seq ?_ | refine T_region ?_ | refine qcT rfl ?_ | refine qcF rfl ?_ | refine T_skip ?_
            | refine T_exit ?_ | refine T_ret ?_ | refine T_block ?_ | refine E_then ?_ | refine E_thenX ?_ | refine E_thenR ?_ | refine E_blockN ?_
            | refine E_blockR ?_ | refine E_blockX ?_ | refine E_blockO rfl ?_ | refine qv rfl (qlen Und.eq rfl) rfl rfl ?_
            | refine qv rfl (qfld FldC.fld rfl rfl) rfl rfl ?_ | refine qv rfl (rr_nilc rfl) rfl rfl ?_ | refine qv rfl (rr_lss rfl rfl (qT (by omega))) rfl rfl ?_
            | refine qv rfl (rr_lss rfl rfl (qF (by omega))) rfl rfl ?_ | refine qv rfl (rr_add64 rfl rfl (by omega) (by omega) rfl) rfl rfl ?_)
          refine E_merge (elsO numS (fun k => F k ∨ F2 k) (css ++ [numC e q (.slice bj m cj) vm]) ((kidsK r n).take j ++ [(e, q)])) 6 3 [5, 0, 1, 2] (by decide) rfl rfl rfl (fun k hk => hk.elim (fun h => by cases h) fun h => h.elim (fun h => .inr (.inr h)) fun h => .inl (.inr h)) (fun w hk he => ?_) ?_
          · obtain ⟨⟨v'', hv, h5⟩, h6⟩ := hk
            simp only [List.cons.injEq, and_true] at hv
            subst hv
            exact els_snoc he (num_iff.2 ⟨_, vm, rfl, rfl, h5⟩) h6
          exact E_round (j + 1, v', css ++ [numC e q (.slice bj m cj) vm], fun k => F k ∨ F2 k) ⟨by show j + 1 ≤ r.kids.length; omega, hv2⟩ (by show r.kids.length - (j + 1) < r.kids.length - j; omega) (by repeat' (first | exact True.intro | refine And.intro rfl ?_)) (by dsimp only; rw [hnx, htk, List.flatten_append]; rfl)
        · refine TL_one (cs := (numC e q (.slice bj m cj) vm).toArray) rfl rfl rfl rfl rfl fun g30 => ?_
          conv => arg 8; simp only [zA, zB, zC, zD, zE, zF, zG, zH, zI, rowS, ret, id_eq]
          refine TW_on (sub_pick [4] (by decide) rfl) ?_
          refine TW_one rfl (TL_val (rr_load1 TyC.ty rfl (at_blk (i := 1) rfl (v := v) rfl)) rfl rfl rfl (TW_on (sub_pick [4] (by decide) rfl) ?_))
          refine TW_one rfl ?_
          refine TL_app1 (i := 2) (q := 7) rfl rfl rfl rfl rfl (numC_one rfl hvm.1) (by omega) (by omega) rfl fun v' => ?_
          conv => arg 8; simp only [zA, zB, zC, zD, zE, zF, zG, zH, zI, rowS, ret, id_eq]
          refine TL_slv (i := 2) rfl fun hv1 hv2 => ?_
          refine TW_on (sub_pick [4] (by decide) rfl) ?_
          repeat (first
            | ((first | refine TW_plain rfl rfl ?_ | refine TW_gmet rfl rfl rfl rfl ?_); first | refine TN_val (qp rfl) rfl rfl ?_ | refine TN_val (qlen Und.eq rfl) rfl rfl ?_ | refine TN_val (qfld FldC.fld rfl rfl) rfl rfl ?_ | refine TN_val (rr_nilc rfl) rfl rfl ?_ | refine TN_val (rr_lss rfl rfl (qT (by omega))) rfl rfl ?_ | refine TN_val (rr_lss rfl rfl (qF (by omega))) rfl rfl ?_ | refine TN_val (rr_add64 rfl rfl (by omega) (by omega) rfl) rfl rfl ?_)
            | refine TW_done ?_)
          refine TW_one rfl (TL_store1 (i := 1) rfl rfl rfl hv1 hv2 rfl ?_)
          conv => arg 8; simp only [zA, zB, zC, zD, zE, zF, zG, zH, zI, rowS, ret, id_eq]
          refine TW_on (sub_pick [4] (by decide) rfl) ?_
          repeat (first
            | ((first | refine TW_plain rfl rfl ?_ | refine TW_gmet rfl rfl rfl rfl ?_); first | refine TN_val (qp rfl) rfl rfl ?_ | refine TN_val (qlen Und.eq rfl) rfl rfl ?_ | refine TN_val (qfld FldC.fld rfl rfl) rfl rfl ?_ | refine TN_val (rr_nilc rfl) rfl rfl ?_ | refine TN_val (rr_lss rfl rfl (qT (by omega))) rfl rfl ?_ | refine TN_val (rr_lss rfl rfl (qF (by omega))) rfl rfl ?_ | refine TN_val (rr_add64 rfl rfl (by omega) (by omega) rfl) rfl rfl ?_)
            | refine TW_done ?_)
          repeat (first
            | refine qv rfl (qp rfl) rfl rfl ?_ | refine TL_nil ?_ | refine T_seq ?_ | refine T_region ?_ | refine qcT rfl ?_ | refine qcF rfl ?_ | refine T_skip ?_
            | refine T_exit ?_ | refine T_ret ?_ | refine T_block ?_ | refine E_then ?_ | refine E_thenX ?_ | refine E_thenR ?_ | refine E_blockN ?_
            | refine E_blockR ?_ | refine E_blockX ?_ | refine E_blockO rfl ?_ | refine qv rfl (qlen Und.eq rfl) rfl rfl ?_
            | refine qv rfl (qfld FldC.fld rfl rfl) rfl rfl ?_ | refine qv rfl (rr_nilc rfl) rfl rfl ?_ | refine qv rfl (rr_lss rfl rfl (qT (by omega))) rfl rfl ?_
            | refine qv rfl (rr_lss rfl rfl (qF (by omega))) rfl rfl ?_ | refine qv rfl (rr_add64 rfl rfl (by omega) (by omega) rfl) rfl rfl ?_)
          refine E_merge (elsO numS (fun k => F k ∨ F2 k) (css ++ [numC e q (.slice bj m cj) vm]) ((kidsK r n).take j ++ [(e, q)])) 6 3 [5, 0, 1, 2] (by decide) rfl rfl rfl (fun k hk => hk.elim (fun h => by cases h) fun h => h.elim (fun h => .inr (.inr h)) fun h => .inl (.inr h)) (fun w hk he => ?_) ?_
          · obtain ⟨⟨v'', hv, h5⟩, h6⟩ := hk
            simp only [List.cons.injEq, and_true] at hv
            subst hv
            exact els_snoc he (num_iff.2 ⟨_, vm, rfl, rfl, h5⟩) h6
          exact E_round (j + 1, v', css ++ [numC e q (.slice bj m cj) vm], fun k => F k ∨ F2 k) ⟨by show j + 1 ≤ r.kids.length; omega, hv2⟩ (by show r.kids.length - (j + 1) < r.kids.length - j; omega) (by repeat' (first | exact True.intro | refine And.intro rfl ?_)) (by dsimp only; rw [hnx, htk, List.flatten_append]; rfl)
    · obtain rfl : j = r.kids.length := by omega
      rw [List.take_of_length_le (by rw [kidsK_len]; omega), nJ_all]
      repeat (first
        | refine qv rfl (qp rfl) rfl rfl ?_ | refine TL_nil ?_ | refine T_seq ?_ | refine T_region ?_ | refine qcT rfl ?_ | refine qcF rfl ?_ | refine T_skip ?_
        | refine T_exit ?_ | refine T_ret ?_ | refine T_block ?_ | refine E_then ?_ | refine E_thenX ?_ | refine E_thenR ?_ | refine E_blockN ?_
        | refine E_blockR ?_ | refine E_blockX ?_ | refine E_blockO rfl ?_ | refine qv rfl (rr_loadB (i := 2) TyC.ty rfl rfl rfl) rfl rfl ?_
        | refine qv rfl (qlen Und.eq rfl) rfl rfl ?_ | refine qv rfl (qfld FldC.fld rfl rfl) rfl rfl ?_ | refine qv rfl (rr_nilc rfl) rfl rfl ?_
        | refine qv rfl (rr_lss rfl rfl (qT (by omega))) rfl rfl ?_ | refine qv rfl (rr_lss rfl rfl (qF (by omega))) rfl rfl ?_
        | refine qv rfl (rr_add64 rfl rfl (by omega) (by omega) rfl) rfl rfl ?_)
      refine TL_storeB (i := 1) (cs' := (numC r n (.slice bk r.kids.length ck) v).toArray) rfl rfl rfl rfl (numC_one rfl i2) rfl ?_
      conv => arg 8; simp only [zA, zB, zC, zD, zE, zF, zG, zH, zI, rowS, ret, id_eq]
      repeat (first
        | refine qv rfl (qp rfl) rfl rfl ?_ | refine TL_nil ?_ | refine T_seq ?_ | refine T_region ?_ | refine qcT rfl ?_ | refine qcF rfl ?_ | refine T_skip ?_
        | refine T_exit ?_ | refine T_ret ?_ | refine T_block ?_ | refine E_then ?_ | refine E_thenX ?_ | refine E_thenR ?_ | refine E_blockN ?_
        | refine E_blockR ?_ | refine E_blockX ?_ | refine E_blockO rfl ?_ | refine qv rfl (qlen Und.eq rfl) rfl rfl ?_
        | refine qv rfl (qfld FldC.fld rfl rfl) rfl rfl ?_ | refine qv rfl (rr_nilc rfl) rfl rfl ?_ | refine qv rfl (rr_lss rfl rfl (qT (by omega))) rfl rfl ?_
        | refine qv rfl (rr_lss rfl rfl (qF (by omega))) rfl rfl ?_ | refine qv rfl (rr_add64 rfl rfl (by omega) (by omega) rfl) rfl rfl ?_)
      refine E_merge (nkO (Or1 F v) v (kidsK r n)) 3 4 [0, 1, 2] (by decide) rfl rfl rfl (fun k hk => ?_) (fun w hk he => ?_) ?_
      · rcases hk with hk | hk | hk
        · cases hk
        · exact .inr (.inr hk)
        · exact .inl (.inl hk)
      · have hl : (kidsK r n).length = r.kids.length := kidsK_len r n
        rw [← hl] at hk
        exact ⟨⟨v, rfl, slf_of hk he (by decide)⟩, slO_lt hk he⟩
      refine E_retc1 (i := 1) rfl rfl rfl rfl fun w hm => ?_
      exact hm.meetsB (S := numSp gn r n (.slice bk r.kids.length ck)) (v, Or1 F v) trivial [0, 3] (by decide) rfl
end Go.Proofs.YtndbaalenclgaaaDoor.eng

/- KeyG -/
namespace Go.Proofs.YtndbaalenclgaaaDoor.eng
open Go.RowKit kit mix
theorem mapM_some {α β : Type} {f : α → Option β} : ∀ {l : List α}, (∀ x ∈ l, ∃ y, f x = some y) → ∃ ys, l.mapM f = some ys
  | [], _ => ⟨[], by simp⟩
  | a :: l, h => by
    obtain ⟨y, hy⟩ := h a (by simp)
    obtain ⟨ys, hys⟩ := mapM_some (l := l) fun x hx => h x (by simp [hx])
    exact ⟨y :: ys, by simp [List.mapM_cons, hy, hys]⟩
section
variable {P : Program}
def KL (P : Program) (d : Nat) (t : TypeId) (cs : List Value) : Prop := ∃ ls, P.keyLits d t cs = some ls
theorem kl_int {d : Nat} {t : TypeId} {q : IntKind} {n : Int} (ht : P.underlying t = some (.int q)) (h0 : q.min ≤ n) (h1 : n ≤ q.max) : KL P (d + 1) t [.int q n] := by
  refine ⟨[.int q n], ?_⟩
  have hw : (Lit.int q n).wf = true := by simp [Lit.wf, h0, h1]
  simp [Program.keyLits, ht, hw]
theorem kl_struct {d : Nat} {t : TypeId} {fs : Array Field} {cs : List Value} (ht : P.underlying t = some (.struct fs)) (hl : cs.length = P.cellsOf t) (hn : fs.all (·.name != "_") = true) (h : ∀ f ∈ fs.toList, KL P d f.type ((cs.drop f.offset).take (P.cellsOf f.type))) : KL P (d + 1) t cs := by
  obtain ⟨ys, hy⟩ := mapM_some (f := fun f : Field => P.keyLits d f.type ((cs.drop f.offset).take (P.cellsOf f.type))) (l := fs.toList) h
  refine ⟨ys.flatten, ?_⟩
  unfold Program.keyLits
  simp only [ht]
  rw [if_pos ⟨hl, hn⟩, hy]; rfl
theorem key_ex {t : TypeId} {cs : List Value} {m : Nat} (hw : (match P.underlying t with | some (.array _ _) | some (.struct _) => true | _ => false) = true) (hk : P.keyType t = true) (hl : cs.length = P.cellsOf t) (hm : ∃ d, P.types.size + 1 = d + m) (h : ∀ d, KL P (d + m) t cs) : ∃ l, keyOf P t (.agg cs.toArray) = some l := by
  obtain ⟨d, e⟩ := hm
  obtain ⟨ls, hls⟩ := h d
  refine ⟨.string (keyBytes ls), ?_⟩
  have hf : (Value.agg cs.toArray).formed P t = true := by
    unfold Value.formed
    split at hw <;> simp_all
  have hc : (Value.agg cs.toArray).cells.toList = cs := rfl
  have key : (if (P.keyType t && (Value.agg cs.toArray).formed P t) = true then (P.keyLits (P.types.size + 1) t (Value.agg cs.toArray).cells.toList).map (fun ls => Lit.string (keyBytes ls)) else none) = some (.string (keyBytes ls)) := by
    rw [hk, hf, hc, e, hls]; rfl
  unfold keyOf
  split at hw
  · rename_i h1; rw [h1]; exact key
  · rename_i h1; rw [h1]; exact key
  · cases hw
end
theorem tryLaid : laidOutB Tryd.prog = true := by kernel_rfl
theorem trySize (m : Nat) (h : Nat.ble m (Tryd.prog.types.size + 1) = true) : ∃ d, Tryd.prog.types.size + 1 = d + m := ⟨Tryd.prog.types.size + 1 - m, by have := Nat.le_of_ble_eq_true h; omega⟩
end Go.Proofs.YtndbaalenclgaaaDoor.eng

/- SmL -/
namespace Go.Proofs.YtndbaalenclgaaaDoor.smallL
/-! ### the first ones -/
section
variable {κ : Type} [DecidableEq κ]
end
theorem nodup_bound {l : List Nat} {m : Nat} (h : l.Nodup) (hb : ∀ x ∈ l, x < m) : l.length ≤ m := by
  have hs : ∀ (l l' : List Nat), l.Nodup → (∀ x ∈ l, x ∈ l') → l.length ≤ l'.length := by
    intro l
    induction l with
    | nil => intro l' _ _; simp
    | cons x l ih =>
      intro l' hn hs
      rw [List.nodup_cons] at hn
      have hx : x ∈ l' := hs x (by simp)
      have := ih (l'.erase x) hn.2 (fun y hy => (List.mem_erase_of_ne (by rintro rfl; exact hn.1 hy)).2 (hs y (by simp [hy])))
      rw [List.length_erase_of_mem hx] at this
      have : 0 < l'.length := List.length_pos_of_mem hx
      simp; omega
  have := hs l (List.range m) h fun x hx => List.mem_range.2 (hb x hx)
  simpa using this
end Go.Proofs.YtndbaalenclgaaaDoor.smallL

/- ClassT -/
namespace Go.Proofs.YtndbaalenclgaaaDoor.eng
open Go.RowKit kit mix classL
theorem map_getD {β : Type} (f : Nat → β) (l : List Nat) (j : Nat) (h : j < l.length) : (l.map f)[j]? = some (f (l.getD j 0)) := by
  rw [List.getElem?_map, List.getD_eq_getElem?_getD, List.getElem?_eq_getElem h]; rfl
theorem tab_len : Lib.deBruijn64tab.length = 64 := by decide
theorem tab_at (j : Nat) (h : j < 64) : tabC[j]? = some (.int .u8 ((Lib.deBruijn64tab.getD j 0 : Nat) : Int)) := map_getD (fun (n : Nat) => Value.int .u8 (n : Int)) Lib.deBruijn64tab j (by rw [tab_len]; exact h)
theorem tab_key (c : Nat) (hk : c < 64) : 2 ^ c * 285870213051353865 % 18446744073709551616 / 288230376151711744 < 64 ∧ tabC[2 ^ c * 285870213051353865 % 18446744073709551616 / 288230376151711744]? = some (.int .u8 (c : Int)) := by
  obtain ⟨hi, htab⟩ := Lib.deBruijn64_at _ hk
  have h := tab_at _ hi
  rw [htab] at h
  exact ⟨hi, h⟩
theorem tz_calls (x : Nat) (hx : x < 18446744073709551616) (h0 : x ≠ 0) (w : World) (hT : TabW w) : Calls Tryd.prog 54 #[.int .u64 (x : Int)] w (Meets (ret (.int .i64 (Lib.ctz 64 x : Int))) w) := by
  refine enter (args := [.int .u64 (x : Int)]) (n := 14) Tryd.func54 rfl rfl rfl ?_
  obtain ⟨hlow, hk⟩ := Lib.lowest_bit 64 x h0 (by simpa using hx)
  obtain ⟨hi, hcell⟩ := tab_key _ hk
  have a1 := bits_and_u64_nat x (18446744073709551616 - x) hx (by omega)
  simp only [Nat.reducePow] at hlow
  rw [hlow] at a1
  clear hlow
  generalize Lib.ctz 64 x = c at *
  have h4 : 0 < 2 ^ c := Nat.two_pow_pos c
  have hc := mulw (a := 2 ^ c) (b := 285870213051353865) rfl
  generalize 2 ^ c * 285870213051353865 % 18446744073709551616 = m at *
  have hsh : ∀ w, (Op.shift .shr .u64 (m : Int) .u64 58).run Tryd.prog w = .ok (.int .u64 ((m / 288230376151711744 : Nat) : Int)) w := fun w => shrU m 58 64 .u64 .u64 rfl (by decide) w
  generalize m / 288230376151711744 = j at *
  repeat (first
    | refine qv rfl (qp rfl) rfl rfl ?_ | refine TL_nil ?_ | refine T_seq ?_ | refine T_region ?_ | refine qcT rfl ?_ | refine qcF rfl ?_ | refine T_skip ?_
    | refine T_ret ?_ | refine E_then ?_ | refine E_thenR ?_ | refine qv rfl (rr_eql rfl rfl (decide_eq_false (by omega))) rfl rfl ?_
    | refine qv rfl (rr_neg rfl (neg64 h0 hx)) rfl rfl ?_ | refine qv rfl (rr_and rfl rfl a1) rfl rfl ?_ | refine qv rfl (rr_mulw rfl rfl hc) rfl rfl ?_
    | refine qv rfl (rr_shr rfl rfl hsh) rfl rfl ?_ | refine qv rfl (rr_aidx1 Und.eq TyC.ty rfl rfl hi) rfl rfl ?_
    | refine qv rfl (rr_load1 TyC.ty rfl (at_rd hT hcell)) rfl rfl ?_ | refine qv rfl (rr_conv Und.eq Und.eq rfl (wrap_in (by omega) (by omega))) rfl rfl ?_
    | refine qv rfl (rr_eql rfl rfl (qT (by omega))) rfl rfl ?_ | refine qv rfl (rr_eql rfl rfl (qF (by omega))) rfl rfl ?_)
  exact E_ret1 rfl rfl fun w hm => hm.ret
theorem rr_subw {P : Program} {n : Nat} {W : Base} {fr : Fr} {L : List Own} {dst : Option Tmp} {t u ty : TypeId} {pos : String} {after : Array Edge} {guard : Option (Nat × Bool)} {x y : Operand} {k : IntKind} {m m' r : Int} (hx : ev fr x = some (.int k m)) (hy : ev fr y = some (.int k m')) (h : k.wrap (m - m') = r) : RR P n W ⟨dst, .binOp .sub t x y u, ty, pos, after, guard⟩ fr L (.int k r) := h ▸ rr_sub hx hy
theorem shl6 : ∀ i : Nat, i < 4 → ∀ w, (Op.shift .shl .i64 (i : Int) .u64 6).run Tryd.prog w = .ok (.int .i64 ((64 * i : Nat) : Int)) w := fun i h w => by
  match i, h with
  | 0, _ => rfl
  | 1, _ => rfl
  | 2, _ => rfl
  | 3, _ => rfl
theorem or64i : ∀ i : Nat, i < 4 → ∀ t : Nat, t < 64 → bits .or .i64 ((64 * i : Nat) : Int) (t : Int) = ((64 * i + t : Nat) : Int) := by decide +kernel
/-- the bytes of a class, as a string -/
def strL (c : C4) : List UInt8 := (bytesL c).map UInt8.ofNat
def toL (c : C4) (i : Nat) : List UInt8 := (bytesTo c i).map UInt8.ofNat
def upL (i x : Nat) : List UInt8 := (bitsOf x).map fun j => UInt8.ofNat (64 * i + j)
theorem toL_next (c : C4) (i : Nat) : toL c (i + 1) = toL c i ++ upL i (c.get i).toNat := by
  simp only [toL, upL, bytesTo, List.map_append, List.map_map]; rfl
theorem u8of {m : Nat} (h : m < 256) : IntKind.u8.wrap (m : Int) = ((UInt8.ofNat m).toNat : Int) := by
  rw [IntKind.wrap_u8]; simp
set_option maxHeartbeats 1000000 in
theorem bytes_calls (c : C4) (w : World) (hT : TabW w) : Calls Tryd.prog 52 #[clsV c] w (Meets (ret (str (strL c))) w) := by
  refine enter (args := [.agg #[v64 c.a, v64 c.b, v64 c.c, v64 c.d]]) (n := 29) Tryd.func52 rfl rfl rfl ?_
  refine T_seq (T_region (TL_box rfl rfl rfl fun g => ?_))
  repeat (first
    | refine qv rfl (qp rfl) rfl rfl ?_ | refine TL_nil ?_ | refine T_seq ?_ | refine T_region ?_ | refine qcT rfl ?_ | refine qcF rfl ?_ | refine T_skip ?_
    | refine T_exit ?_ | refine T_ret ?_ | refine T_block ?_ | refine E_then ?_ | refine E_thenX ?_ | refine E_thenR ?_ | refine E_blockN ?_
    | refine E_blockR ?_ | refine E_blockX ?_ | refine E_blockO rfl ?_ | refine qv rfl (rr_loadB (i := 0) TyC.ty rfl rfl rfl) rfl rfl ?_
    | refine qv rfl (rr_lss rfl rfl (qT (by omega))) rfl rfl ?_ | refine qv rfl (rr_lss rfl rfl (qF (by omega))) rfl rfl ?_
    | refine qv rfl (rr_neq rfl rfl (qT (by omega))) rfl rfl ?_ | refine qv rfl (rr_neq rfl rfl (qF (by omega))) rfl rfl ?_
    | refine qv rfl (rr_add64 rfl rfl (by omega) (by omega) rfl) rfl rfl ?_)
  refine T_nil 5 1 ?_
  refine T_loop (ι := Nat × Value) (fun (i, _) => i ≤ 4) (fun (i, v) => [(3, v), (6, .agg #[v64 c.a, v64 c.b, v64 c.c, v64 c.d]), (7, .int .i64 (i : Int))]) (fun (i, v) => [blkO g (Value.agg #[v64 c.a, v64 c.b, v64 c.c, v64 c.d]).cells 34, rowO 5 1 v (toL c i).length ((toL c i).map u8v)]) (fun (i, _) => 4 - i) (0, .slice none 0 0) (by show 0 ≤ 4; omega) (by repeat' (first | exact True.intro | refine And.intro rfl ?_)) rfl ?_
  rintro ⟨i, v⟩ hi
  dsimp only at hi ⊢
  by_cases h4 : i < 4
  · have hc := cls_cell c i h4
    have hx := (c.get i).isLt
    have hnx := toL_next c i
    have hl : (toL c i).length ≤ 64 * i := by have := bytesTo_len c i; simpa [toL] using this
    have hsh := shl6 i h4
    have hor := or64i i h4
    repeat (first
      | refine qv rfl (qp rfl) rfl rfl ?_ | refine TL_nil ?_ | refine T_seq ?_ | refine T_region ?_ | refine qcT rfl ?_ | refine qcF rfl ?_ | refine T_skip ?_
      | refine T_exit ?_ | refine T_ret ?_ | refine T_block ?_ | refine E_then ?_ | refine E_thenX ?_ | refine E_thenR ?_ | refine E_blockN ?_
      | refine E_blockR ?_ | refine E_blockX ?_ | refine E_blockO rfl ?_ | refine qv rfl (rr_arridx Und.eq TyC.ty rfl rfl h4 hc) rfl rfl ?_
      | refine qv rfl (rr_lss rfl rfl (qT (by omega))) rfl rfl ?_ | refine qv rfl (rr_lss rfl rfl (qF (by omega))) rfl rfl ?_
      | refine qv rfl (rr_neq rfl rfl (qT (by omega))) rfl rfl ?_ | refine qv rfl (rr_neq rfl rfl (qF (by omega))) rfl rfl ?_
      | refine qv rfl (rr_add64 rfl rfl (by omega) (by omega) rfl) rfl rfl ?_)
    refine T_loop (ι := List UInt8 × Nat × Value) (fun (o, x, _) => o ++ upL i x = toL c (i + 1) ∧ x < 18446744073709551616 ∧ o.length + (bitsOf x).length ≤ 256) (fun (o, x, v) => [(3, v), (4, .int .i64 (i : Int)), (5, .int .u64 (x : Int)), (6, .agg #[v64 c.a, v64 c.b, v64 c.c, v64 c.d]), (7, .int .i64 (i : Int))]) (fun (o, _, v) => [blkO g (Value.agg #[v64 c.a, v64 c.b, v64 c.c, v64 c.d]).cells 34, rowO 5 1 v o.length (o.map u8v)]) (fun (_, x, _) => x) (toL c i, (c.get i).toNat, v) ⟨hnx.symm, hx, ?_⟩ (by repeat' (first | exact True.intro | refine And.intro rfl ?_)) rfl ?_
    · have := ones_le 64 (c.get i).toNat
      rw [bits_len]; omega
    clear hnx hl hx hc
    rintro ⟨o, x, v2⟩ ⟨k1, k2, k3⟩
    dsimp only at k1 k2 k3 ⊢
    by_cases h0 : x = 0
    · subst h0
      have e : o = toL c (i + 1) := by rw [← k1]; simp [upL, bits_zero]
      subst e
      repeat (first
        | refine qv rfl (qp rfl) rfl rfl ?_ | refine TL_nil ?_ | refine T_seq ?_ | refine T_region ?_ | refine qcT rfl ?_ | refine qcF rfl ?_ | refine T_skip ?_
        | refine T_exit ?_ | refine T_ret ?_ | refine T_block ?_ | refine E_then ?_ | refine E_thenX ?_ | refine E_thenR ?_ | refine E_blockN ?_
        | refine E_blockR ?_ | refine E_blockX ?_ | refine E_blockO rfl ?_ | refine qv rfl (rr_lss rfl rfl (qT (by omega))) rfl rfl ?_
        | refine qv rfl (rr_lss rfl rfl (qF (by omega))) rfl rfl ?_ | refine qv rfl (rr_neq rfl rfl (qT (by omega))) rfl rfl ?_
        | refine qv rfl (rr_neq rfl rfl (qF (by omega))) rfl rfl ?_ | refine qv rfl (rr_add64 rfl rfl (by omega) (by omega) rfl) rfl rfl ?_)
      exact E_round (i + 1, v2) (by show i + 1 ≤ 4; omega) (by show 4 - (i + 1) < 4 - i; omega) (by repeat' (first | exact True.intro | refine And.intro rfl ?_)) rfl
    · obtain ⟨q1, q2, q3⟩ := bits_step x h0 k2
      have htz := tz_calls x k2 h0
      have hb : o.length + 1 ≤ 256 := by rw [q2] at k3; simp at k3; omega
      have hor2 := hor _ q1
      have ha := bits_and_u64_nat x (x - 1) k2 (by omega)
      have hsub : IntKind.u64.wrap ((x : Int) - 1) = ((x - 1 : Nat) : Int) := by rw [IntKind.wrap_u64]; omega
      have hu8 : IntKind.u8.wrap ((64 * i + Lib.ctz 64 x : Nat) : Int) = ((UInt8.ofNat (64 * i + Lib.ctz 64 x)).toNat : Int) := u8of (by omega)
      have hup : upL i x = UInt8.ofNat (64 * i + Lib.ctz 64 x) :: upL i (x &&& (x - 1)) := by simp [upL, q2]
      have hlen : (bitsOf x).length = (bitsOf (x &&& (x - 1))).length + 1 := by rw [q2]; rfl
      clear q2
      generalize Lib.ctz 64 x = z at *
      generalize x &&& (x - 1) = y at *
      repeat (first
        | refine qv rfl (qp rfl) rfl rfl ?_ | refine TL_nil ?_ | refine T_seq ?_ | refine T_region ?_ | refine qcT rfl ?_ | refine qcF rfl ?_ | refine T_skip ?_
        | refine T_exit ?_ | refine T_ret ?_ | refine T_block ?_ | refine E_then ?_ | refine E_thenX ?_ | refine E_thenR ?_ | refine E_blockN ?_
        | refine E_blockR ?_ | refine E_blockX ?_ | refine E_blockO rfl ?_ | refine qv rfl (rr_shl rfl rfl hsh) rfl rfl ?_
        | refine qv rfl (rr_lss rfl rfl (qT (by omega))) rfl rfl ?_ | refine qv rfl (rr_lss rfl rfl (qF (by omega))) rfl rfl ?_
        | refine qv rfl (rr_neq rfl rfl (qT (by omega))) rfl rfl ?_ | refine qv rfl (rr_neq rfl rfl (qF (by omega))) rfl rfl ?_
        | refine qv rfl (rr_add64 rfl rfl (by omega) (by omega) rfl) rfl rfl ?_)
      refine TL_call (he1 EntersC.en rfl rfl) (fun w hm => htz _ (hT.up hm)) rfl rfl rfl ?_
      intro _ _
      repeat (first
        | refine qv rfl (qp rfl) rfl rfl ?_ | refine TL_nil ?_ | refine T_seq ?_ | refine T_region ?_ | refine qcT rfl ?_ | refine qcF rfl ?_ | refine T_skip ?_
        | refine T_exit ?_ | refine T_ret ?_ | refine T_block ?_ | refine E_then ?_ | refine E_thenX ?_ | refine E_thenR ?_ | refine E_blockN ?_
        | refine E_blockR ?_ | refine E_blockX ?_ | refine E_blockO rfl ?_ | refine qv rfl (rr_or rfl rfl hor2) rfl rfl ?_
        | refine qv rfl (rr_conv Und.eq Und.eq rfl hu8) rfl rfl ?_ | refine qv rfl (rr_lss rfl rfl (qT (by omega))) rfl rfl ?_
        | refine qv rfl (rr_lss rfl rfl (qF (by omega))) rfl rfl ?_ | refine qv rfl (rr_neq rfl rfl (qT (by omega))) rfl rfl ?_
        | refine qv rfl (rr_neq rfl rfl (qF (by omega))) rfl rfl ?_ | refine qv rfl (rr_add64 rfl rfl (by omega) (by omega) rfl) rfl rfl ?_)
      refine TL_push1 (i := 1) rfl rfl rfl rfl rfl rfl (fun z h => by cases h; rfl) (by omega) (by omega) rfl fun z' v' => ?_
      repeat (first
        | refine qv rfl (qp rfl) rfl rfl ?_ | refine TL_nil ?_ | refine T_seq ?_ | refine T_region ?_ | refine qcT rfl ?_ | refine qcF rfl ?_ | refine T_skip ?_
        | refine T_exit ?_ | refine T_ret ?_ | refine T_block ?_ | refine E_then ?_ | refine E_thenX ?_ | refine E_thenR ?_ | refine E_blockN ?_
        | refine E_blockR ?_ | refine E_blockX ?_ | refine E_blockO rfl ?_ | refine qv rfl (rr_subw rfl rfl hsub) rfl rfl ?_
        | refine qv rfl (rr_and rfl rfl ha) rfl rfl ?_ | refine qv rfl (rr_lss rfl rfl (qT (by omega))) rfl rfl ?_
        | refine qv rfl (rr_lss rfl rfl (qF (by omega))) rfl rfl ?_ | refine qv rfl (rr_neq rfl rfl (qT (by omega))) rfl rfl ?_
        | refine qv rfl (rr_neq rfl rfl (qF (by omega))) rfl rfl ?_ | refine qv rfl (rr_add64 rfl rfl (by omega) (by omega) rfl) rfl rfl ?_)
      refine E_pick [0, 1] (by decide) rfl ?_
      exact E_round (o ++ [UInt8.ofNat (64 * i + z)], y, v') ⟨by rw [List.append_assoc, ← k1, hup]; rfl, by show y < _; omega, by show (o ++ [_]).length + (bitsOf y).length ≤ _; simp; omega⟩ q3 (by repeat' (first | exact True.intro | refine And.intro rfl ?_)) (by simp only [List.map_append, List.length_append, List.map_cons, List.map_nil, List.length_cons, List.length_nil]; rfl)
  · obtain rfl : i = 4 := by omega
    have hs : toL c 4 = strL c := by unfold toL strL; rw [bytes_to]
    rw [hs]
    repeat (first
      | refine qv rfl (qp rfl) rfl rfl ?_ | refine TL_nil ?_ | refine T_seq ?_ | refine T_region ?_ | refine qcT rfl ?_ | refine qcF rfl ?_ | refine T_skip ?_
      | refine T_exit ?_ | refine T_ret ?_ | refine T_block ?_ | refine E_then ?_ | refine E_thenX ?_ | refine E_thenR ?_ | refine E_blockN ?_
      | refine E_blockR ?_ | refine E_blockX ?_ | refine E_blockO rfl ?_
      | refine qv rfl (rr_string Und.eq Und.eq Und.eq rfl rfl (sl_row (i := 1) rfl)) rfl rfl ?_ | refine qv rfl (rr_lss rfl rfl (qT (by omega))) rfl rfl ?_
      | refine qv rfl (rr_lss rfl rfl (qF (by omega))) rfl rfl ?_ | refine qv rfl (rr_neq rfl rfl (qT (by omega))) rfl rfl ?_
      | refine qv rfl (rr_neq rfl rfl (qF (by omega))) rfl rfl ?_ | refine qv rfl (rr_add64 rfl rfl (by omega) (by omega) rfl) rfl rfl ?_)
    exact E_ret1 rfl rfl fun w hm => hm.ret
end Go.Proofs.YtndbaalenclgaaaDoor.eng

/- RexM -/
namespace Go.Proofs.YtndbaalenclgaaaDoor.eng
open Go.RowKit kit mix classL rexL classSets
/-! ### keys: a node and a place -/
abbrev At2 := Int × Int
def atC (p : At2) : List Value := [.int .i64 p.1, .int .i64 p.2]
def atV (p : At2) : Value := .agg (atC p).toArray
set_option maxRecDepth 100000 in
theorem at_key (p : At2) (h : kit.okI64 p.1 ∧ kit.okI64 p.2) : ∃ l, keyOf Tryd.prog 93 (atV p) = some l := by
  have e1 : Tryd.prog.cellsOf 93 = 2 := by kernel_rfl
  have e3 : Tryd.prog.cellsOf 3 = 1 := by kernel_rfl
  refine key_ex (m := 2) (by kernel_rfl) (by kernel_rfl) (by rw [e1]; rfl) (trySize 2 (by kernel_rfl)) fun d => ?_
  refine kl_struct (d := d + 1) Tryd.underlying93 (by rw [e1]; rfl) (by kernel_rfl) fun f hf => ?_
  simp only [List.mem_cons, List.not_mem_nil, or_false] at hf
  rcases hf with rfl | rfl
  · rw [e3]
    exact kl_int Tryd.underlying3 h.1.1 h.1.2
  · rw [e3]
    exact kl_int Tryd.underlying3 h.2.1 h.2.2
theorem atRow : (93 : TypeId) < Tryd.prog.types.size := of_decide_eq_true (by kernel_rfl)
set_option maxRecDepth 100000 in
def atK : KeyT Tryd.prog 93 At2 where
  kv := atV
  ok p := kit.okI64 p.1 ∧ kit.okI64 p.2
  law := deep_law_laid tryLaid (m := 2) (by omega) atRow (by kernel_rfl) (by kernel_rfl)
  key x h := at_key x h
  inj x y h := by
    simp only [atV, Value.agg.injEq, Array.mk.injEq, atC, List.cons.injEq, Value.int.injEq, true_and, and_true] at h
    exact Prod.ext h.1 h.2
theorem zeroCls (w : World) : (zeroValue 34).run Tryd.prog w = .ok (clsV C4.zero) w := by kernel_rfl
/-! ### nodes by their numbers -/
def nodeAt : Re → Nat → Nat → Re
  | r, base, k => if k = base then r else match r with
    | .cat a b => if k < base + 1 + a.size then nodeAt a (base + 1) k else nodeAt b (base + 1 + a.size) k
    | .alt a b => if k < base + 1 + a.size then nodeAt a (base + 1) k else nodeAt b (base + 1 + a.size) k
    | .star a => nodeAt a (base + 1) k
    | r => r
def Con (N : Nat → Re) (r : Re) (k : Nat) : Prop := ∀ i, k ≤ i → i < k + r.size → N i = nodeAt r k i
theorem nodeAt_self (r : Re) (k : Nat) : nodeAt r k k = r := by cases r <;> simp [nodeAt]
theorem con_self {N : Nat → Re} {r : Re} {k : Nat} (h : Con N r k) : N k = r := by
  have := h k (Nat.le_refl k) (by have := r.size_pos; omega)
  rw [this, nodeAt_self]
theorem con_kid {N : Nat → Re} {r : Re} {k : Nat} (h : Con N r k) {j : Nat} (hj : j < (kidsK r k).length) : Con N (kidsK r k)[j].1 (kidsK r k)[j].2 ∧ (kidsK r k)[j].2 + (kidsK r k)[j].1.size ≤ k + r.size ∧ (kidsK r k)[j].1.size < r.size := by
  cases r with
  | cat a b => match j, hj with
    | 0, _ =>
      refine ⟨fun i h1 h2 => ?_, by simp [kidsK, Re.size]; omega, by simp [kidsK, Re.size]; omega⟩
      simp only [kidsK, List.getElem_cons_zero] at h1 h2 ⊢
      rw [h i (by omega) (by simp [Re.size]; omega), nodeAt, if_neg (by omega)]
      show (if i < k + 1 + a.size then _ else _) = _
      rw [if_pos (by omega)]
    | 1, _ =>
      refine ⟨fun i h1 h2 => ?_, by simp [kidsK, Re.size]; omega, by simp [kidsK, Re.size]; omega⟩
      simp only [kidsK, List.getElem_cons_succ, List.getElem_cons_zero] at h1 h2 ⊢
      rw [h i (by omega) (by simp [Re.size]; omega), nodeAt, if_neg (by omega)]
      show (if i < k + 1 + a.size then _ else _) = _
      rw [if_neg (by omega)]
  | alt a b => match j, hj with
    | 0, _ =>
      refine ⟨fun i h1 h2 => ?_, by simp [kidsK, Re.size]; omega, by simp [kidsK, Re.size]; omega⟩
      simp only [kidsK, List.getElem_cons_zero] at h1 h2 ⊢
      rw [h i (by omega) (by simp [Re.size]; omega), nodeAt, if_neg (by omega)]
      show (if i < k + 1 + a.size then _ else _) = _
      rw [if_pos (by omega)]
    | 1, _ =>
      refine ⟨fun i h1 h2 => ?_, by simp [kidsK, Re.size]; omega, by simp [kidsK, Re.size]; omega⟩
      simp only [kidsK, List.getElem_cons_succ, List.getElem_cons_zero] at h1 h2 ⊢
      rw [h i (by omega) (by simp [Re.size]; omega), nodeAt, if_neg (by omega)]
      show (if i < k + 1 + a.size then _ else _) = _
      rw [if_neg (by omega)]
  | star a => match j, hj with
    | 0, _ =>
      refine ⟨fun i h1 h2 => ?_, by simp [kidsK, Re.size]; omega, by simp [kidsK, Re.size]⟩
      simp only [kidsK, List.getElem_cons_zero] at h1 h2 ⊢
      rw [h i (by omega) (by simp [Re.size]; omega), nodeAt, if_neg (by omega)]
  | none => simp [kidsK] at hj
  | empty => simp [kidsK] at hj
  | byte c => simp [kidsK] at hj
/-! ### what the map holds -/
structure MOk (s : List UInt8) (N : Nat → Re) (m : At2 → Option Value) (n : Nat) : Prop where
  val : ∀ (k f : Nat) v, k < 100 → f ≤ s.length → m ((k : Int), (f : Int)) = some v → ∃ c, v = clsV c ∧ EndC s (N k) f c
  cnt : ∃ D : List Nat, D.Nodup ∧ D.length = n ∧ (∀ x ∈ D, x < 25600) ∧ ∀ (k f : Nat), k < 100 → f < 256 → ((m ((k : Int), (f : Int))).isSome = true ↔ k * 256 + f ∈ D)
theorem mok0 (s : List UInt8) (N : Nat → Re) : MOk s N (fun _ => none) 0 := ⟨fun k f v _ _ h => (by cases h), [], List.nodup_nil, rfl, fun x h => (by cases h), fun k f _ _ => by simp⟩
theorem MOk.le {s : List UInt8} {N : Nat → Re} {m : At2 → Option Value} {n : Nat} (h : MOk s N m n) : n ≤ 25600 := by
  obtain ⟨D, h1, h2, h3, _⟩ := h.cnt
  rw [← h2]
  exact smallL.nodup_bound h1 h3
theorem MOk.set {s : List UInt8} {N : Nat → Re} {m : At2 → Option Value} {n : Nat} (h : MOk s N m n) (hs : s.length ≤ 200) {k f : Nat} (hk : k < 100) (hf : f ≤ s.length) {c : C4} (hc : EndC s (N k) f c) :
    MOk s N (fun y => if y = ((k : Int), (f : Int)) then some (clsV c) else m y) (if (m ((k : Int), (f : Int))).isSome then n else n + 1) := by
  refine ⟨fun k' f' v hk' hf' hv => ?_, ?_⟩
  · by_cases e : ((k' : Int), (f' : Int)) = ((k : Int), (f : Int))
    · rw [if_pos e] at hv
      simp only [Prod.mk.injEq] at e
      obtain rfl : k' = k := by omega
      obtain rfl : f' = f := by omega
      simp only [Option.some.injEq] at hv
      exact ⟨c, hv.symm, hc⟩
    · rw [if_neg e] at hv
      exact h.val k' f' v hk' hf' hv
  · obtain ⟨D, h1, h2, h3, h4⟩ := h.cnt
    by_cases e : (m ((k : Int), (f : Int))).isSome = true
    · rw [if_pos e]
      refine ⟨D, h1, h2, h3, fun k' f' hk' hf' => ?_⟩
      by_cases e2 : ((k' : Int), (f' : Int)) = ((k : Int), (f : Int))
      · rw [if_pos e2]
        simp only [Prod.mk.injEq] at e2
        obtain rfl : k' = k := by omega
        obtain rfl : f' = f := by omega
        simpa using (h4 k' f' hk' hf').1 e
      · rw [if_neg e2]
        exact h4 k' f' hk' hf'
    · rw [if_neg e]
      have hn : k * 256 + f ∉ D := fun hd => e ((h4 k f hk (by omega)).2 hd)
      refine ⟨(k * 256 + f) :: D, List.nodup_cons.2 ⟨hn, h1⟩, by rw [List.length_cons, h2], fun x hx => ?_, fun k' f' hk' hf' => ?_⟩
      · rcases List.mem_cons.1 hx with rfl | hx
        · omega
        · exact h3 x hx
      · by_cases e2 : ((k' : Int), (f' : Int)) = ((k : Int), (f : Int))
        · rw [if_pos e2]
          simp only [Prod.mk.injEq] at e2
          obtain rfl : k' = k := by omega
          obtain rfl : f' = f := by omega
          simp
        · rw [if_neg e2, h4 k' f' hk' hf', List.mem_cons]
          have : ¬ k' * 256 + f' = k * 256 + f := fun h => e2 (by
            have a : k' = k := by omega
            have b : f' = f := by omega
            rw [a, b])
          simp [this]
/-! ### contracts -/
abbrev EIx := C4 × (At2 → Option Value) × Nat
def spO (gs : Nat) (s : List UInt8) (gm : Nat) : Own := blkO gs #[str s, .map (some gm)] 74
def mO (gm : Nat) (x : (At2 → Option Value) × Nat) : Own := mapO atK gm x.1 x.2
def endSp (s : List UInt8) (N : Nat → Re) (gs gm : Nat) (F : Nat → Prop) (w1 : World) (r : Re) (f : Nat) : Spec EIx := ⟨fun x => EndC s r f x.1 ∧ MOk s N x.2.1 x.2.2, fun x => clsV x.1, fun x => [spO gs s gm, mO gm x.2, frozO F w1]⟩
def eachSp (s : List UInt8) (N : Nat → Re) (gs gm : Nat) (F : Nat → Prop) (w1 : World) (r : Re) (X : C4) : Spec EIx := ⟨fun x => EachC s r X x.1 ∧ MOk s N x.2.1 x.2.2, fun x => clsV x.1, fun x => [spO gs s gm, mO gm x.2, frozO F w1]⟩
/-- what ends says at a node -/
def EndsOk (w0 : World) (s : List UInt8) (N : Nat → Re) (gs gm : Nat) (F : Nat → Prop) (w1 : World) (r : Re) (cs : List Value) : Prop :=
  ∀ (f : Nat) (m : At2 → Option Value) (n : Nat) (w : World) (B : Base), f ≤ s.length → MOk s N m n → Old w0 B → Mem B [spO gs s gm, mO gm (m, n), frozO F w1] w →
    Calls Tryd.prog 29 #[.pointer (some ⟨gs, 0, none⟩), .agg cs.toArray, .int .i64 (f : Int)] w (MeetsB (endSp s N gs gm F w1 r f) B)
/-- ends from the first j of some places -/
def EachJ (s : List UInt8) (r : Re) (X : C4) (j : Nat) (c : C4) : Prop := ∀ i, i < 256 → (c.mem i = true ↔ ∃ f, f ∈ (bytesL X).take j ∧ EndP r s f i)
theorem each_0 (s : List UInt8) (r : Re) (X : C4) : EachJ s r X 0 C4.zero := fun i hi => by rw [zero_mem]; simp
theorem each_next {s : List UInt8} {r : Re} {X c c' : C4} {j : Nat} (hj : j < (bytesL X).length) (h : EachJ s r X j c) (h' : EndC s r (bytesL X)[j] c') : EachJ s r X (j + 1) (c.join c') := fun i hi => by
  rw [join_mem, Bool.or_eq_true, h i hi, h' i hi, List.take_succ_eq_append_getElem hj]
  constructor
  · rintro (⟨f, h1, h2⟩ | h2)
    · exact ⟨f, List.mem_append_left _ h1, h2⟩
    · exact ⟨_, List.mem_append_right _ (by simp), h2⟩
  · rintro ⟨f, h1, h2⟩
    rcases List.mem_append.1 h1 with h1 | h1
    · exact .inl ⟨f, h1, h2⟩
    · simp at h1; subst h1; exact .inr h2
theorem each_all {s : List UInt8} {r : Re} {X c : C4} (h : EachJ s r X (bytesL X).length c) : EachC s r X c := fun i hi => by
  rw [h i hi, List.take_length]
  exact ⟨fun ⟨f, h1, h2⟩ => ⟨f, (mem_bytes.1 h1).1, (mem_bytes.1 h1).2, h2⟩, fun ⟨f, h1, h2, h3⟩ => ⟨f, mem_bytes.2 ⟨h1, h2⟩, h3⟩⟩
theorem strL_len (X : C4) : (strL X).length = (bytesL X).length := by unfold strL; simp
set_option maxRecDepth 100000 in
set_option maxHeartbeats 16000000 in
theorem each4_calls (w0 : World) (hT : TabW w0) (s : List UInt8) (hs : s.length ≤ 200) (N : Nat → Re) (gs gm : Nat) (F : Nat → Prop) (w1 : World) (r : Re) (k : Nat) (vk v : Value) (hE : EndsOk w0 s N gs gm F w1 r (numC r k vk v)) (h1k : vk.oneCell' = true) (h1v : v.oneCell' = true) (X : C4) (hX : ∀ i, i < 256 → X.mem i = true → i ≤ s.length) (m : At2 → Option Value) (n : Nat) (w : World) (B : Base) (hmk : MOk s N m n) (ho : Old w0 B) (hm : Mem B [spO gs s gm, mO gm (m, n), frozO F w1] w) :
    Calls Tryd.prog 43 #[.pointer (some ⟨gs, 0, none⟩), clsV X, .agg (numC r k vk v).toArray] w (MeetsB (eachSp s N gs gm F w1 r X) B) := by
  have hl256 : (bytesL X).length ≤ 256 := cnt_le X
  have hTB : ∀ (L : List Own) w', Mem B L w' → TabW w' := fun L w' hm j u hj => ho.cell hm (hT j u hj)
  refine enterB hm (args := [.pointer (some ⟨gs, 0, none⟩), clsV X, .agg (numC r k vk v).toArray]) (n := 27) Tryd.func43 rfl rfl rfl ?_
  clear hm
  refine T_seq (T_region (TL_box rfl rfl rfl fun g4 => TL_box rfl rfl rfl fun g5 => TL_new rfl fun g6 => ?_))
  conv => arg 8; simp only [zA, zB, zC, zD, zE, zF, zG, zH, zI, rowS, ret, id_eq]
  repeat (first
    | refine qv rfl (qp rfl) rfl rfl ?_ | refine TL_nil ?_ | refine T_seq ?_ | refine T_region ?_ | refine qcT rfl ?_ | refine qcF rfl ?_ | refine T_skip ?_
    | refine T_exit ?_ | refine T_ret ?_ | refine T_block ?_ | refine E_then ?_ | refine E_thenX ?_ | refine E_thenR ?_ | refine E_blockN ?_
    | refine E_blockR ?_ | refine E_blockX ?_ | refine E_blockO rfl ?_ | refine qv rfl (qlen Und.eq rfl) rfl rfl ?_
    | refine qv rfl (rr_lss rfl rfl (qT (by omega))) rfl rfl ?_ | refine qv rfl (rr_lss rfl rfl (qF (by omega))) rfl rfl ?_
    | refine qv rfl (rr_add64 rfl rfl (by omega) (by omega) rfl) rfl rfl ?_)
  refine TL_new rfl fun g7 => ?_
  conv => arg 8; simp only [zA, zB, zC, zD, zE, zF, zG, zH, zI, rowS, ret, id_eq]
  repeat (first
    | refine qv rfl (qp rfl) rfl rfl ?_ | refine TL_nil ?_ | refine T_seq ?_ | refine T_region ?_ | refine qcT rfl ?_ | refine qcF rfl ?_ | refine T_skip ?_
    | refine T_exit ?_ | refine T_ret ?_ | refine T_block ?_ | refine E_then ?_ | refine E_thenX ?_ | refine E_thenR ?_ | refine E_blockN ?_
    | refine E_blockR ?_ | refine E_blockX ?_ | refine E_blockO rfl ?_ | refine qv rfl (rr_loadB (i := 3) TyC.ty rfl rfl rfl) rfl rfl ?_
    | refine qv rfl (qlen Und.eq rfl) rfl rfl ?_ | refine qv rfl (rr_lss rfl rfl (qT (by omega))) rfl rfl ?_
    | refine qv rfl (rr_lss rfl rfl (qF (by omega))) rfl rfl ?_ | refine qv rfl (rr_add64 rfl rfl (by omega) (by omega) rfl) rfl rfl ?_)
  refine TL_call (he1 EntersC.en rfl rfl) (fun w hm => bytes_calls X w (hTB _ w hm)) rfl rfl rfl ?_
  intro _ _
  conv => arg 8; simp only [zA, zB, zC, zD, zE, zF, zG, zH, zI, rowS, ret, id_eq]
  refine TL_bytes Und.eq Und.eq Und.eq rfl rfl fun g12 cap hcap => ?_
  conv => arg 8; simp only [zA, zB, zC, zD, zE, zF, zG, zH, zI, rowS, ret, id_eq]
  repeat (first
    | refine qv rfl (qp rfl) rfl rfl ?_ | refine TL_nil ?_ | refine T_seq ?_ | refine T_region ?_ | refine qcT rfl ?_ | refine qcF rfl ?_ | refine T_skip ?_
    | refine T_exit ?_ | refine T_ret ?_ | refine T_block ?_ | refine E_then ?_ | refine E_thenX ?_ | refine E_thenR ?_ | refine E_blockN ?_
    | refine E_blockR ?_ | refine E_blockX ?_ | refine E_blockO rfl ?_ | refine qv rfl (rr_strlen Und.eq rfl) rfl rfl ?_
    | refine qv rfl (qlen Und.eq rfl) rfl rfl ?_ | refine qv rfl (rr_lss rfl rfl (qT (by omega))) rfl rfl ?_
    | refine qv rfl (rr_lss rfl rfl (qF (by omega))) rfl rfl ?_ | refine qv rfl (rr_add64 rfl rfl (by omega) (by omega) rfl) rfl rfl ?_)
  refine T_pick [0, 1, 2, 4, 5, 6, 7] (by decide) rfl ?_
  refine T_loop (ι := Nat × EIx) (fun (j, c, m, n) => j ≤ (bytesL X).length ∧ EachJ s r X j c ∧ MOk s N m n) (fun (j, _) => [(0, .pointer (some ⟨gs, 0, none⟩)), (5, .pointer (some ⟨g5, 0, none⟩)), (6, .pointer (some ⟨g6, 0, none⟩)), (7, .pointer (some ⟨g7, 0, none⟩)), (12, .slice (some ⟨g12, 0, none⟩) (strL X).length cap), (13, .int .i64 ((bytesL X).length : Int)), (14, .int .i64 (j : Int))])
    (fun (_, c, m, n) => [spO gs s gm, mO gm (m, n), frozO F w1, blkO g5 (numC r k vk v).toArray 78, blkO g6 (clsL C4.zero).toArray 34, blkO g7 (clsL c).toArray 34, wrO g12 ((strL X).map u8v)]) (fun (j, _) => (bytesL X).length - j) (0, C4.zero, m, n) ⟨Nat.zero_le _, each_0 s r X, hmk⟩ ⟨rfl, rfl, rfl, rfl, rfl, by show _ = some (Value.int .i64 _); rw [← strL_len]; rfl, rfl, trivial⟩ rfl ?_
  clear hmk m n
  rintro ⟨j, c, m, n⟩ ⟨hj, hc, hmk⟩
  dsimp only at hj hc hmk ⊢
  by_cases c1 : j < (bytesL X).length
  · have hb := mem_bytes.1 (List.getElem_mem c1)
    have hb256 := hb.1
    have hle := hX _ hb256 hb.2
    have hcell : ((strL X).map u8v)[0 + j]? = some (.int .u8 ((bytesL X)[j] : Int)) := by
      rw [Nat.zero_add]
      have e : (UInt8.ofNat (bytesL X)[j]).toNat = (bytesL X)[j] := by simp; omega
      simp only [strL, List.map_map, List.getElem?_map, List.getElem?_eq_getElem c1, Option.map_some, Function.comp_apply, u8v, e]
    have hnx := fun c' h' => each_next (c' := c') c1 hc h'
    have hjl : j < (strL X).length := by rw [strL_len]; exact c1
    generalize (bytesL X)[j] = b at *
    repeat (first
      | refine qv rfl (qp rfl) rfl rfl ?_ | refine TL_nil ?_ | refine T_seq ?_ | refine T_region ?_ | refine qcT rfl ?_ | refine qcF rfl ?_ | refine T_skip ?_
      | refine T_exit ?_ | refine T_ret ?_ | refine T_block ?_ | refine E_then ?_ | refine E_thenX ?_ | refine E_thenR ?_ | refine E_blockN ?_
      | refine E_blockR ?_ | refine E_blockX ?_ | refine E_blockO rfl ?_ | refine qv rfl (rr_idx1 (j := j) Und.eq TyC.ty rfl rfl hjl) rfl rfl ?_
      | refine qv rfl (rr_load1 TyC.ty rfl (at_wr (i := 6) rfl hcell)) rfl rfl ?_ | refine qv rfl (qlen Und.eq rfl) rfl rfl ?_
      | refine qv rfl (rr_lss rfl rfl (qT (by omega))) rfl rfl ?_ | refine qv rfl (rr_lss rfl rfl (qF (by omega))) rfl rfl ?_
      | refine qv rfl (rr_add64 rfl rfl (by omega) (by omega) rfl) rfl rfl ?_)
    (repeat refine T_seq ?_)
    refine T_ord ([blkO g5 (numC r k vk v).toArray 78]) (.calm 1 (.calm 2 (.calm 3 (.calm 4 (.two 0 (.one 5 (.calm 6 (.one 7 (.done)))) 5 (.one 0 (.calm 6 (.one 7 (.done))))))))) (sub_pick [3] (by decide) rfl) (by kernel_rfl) (by kernel_rfl) (by intro c a d v w h; cases d <;> exact h) ?_
    repeat (first
      | ((first | refine TW_plain rfl rfl ?_ | refine TW_gmet rfl rfl rfl rfl ?_); first | refine TN_val (qp rfl) rfl rfl ?_ | refine TN_val (rr_loadB (i := 0) TyC.ty rfl rfl rfl) rfl rfl ?_ | refine TN_val (rr_conv Und.eq Und.eq rfl (wrap_in (by omega) (by omega))) rfl rfl ?_ | refine TN_val (qlen Und.eq rfl) rfl rfl ?_ | refine TN_val (rr_lss rfl rfl (qT (by omega))) rfl rfl ?_ | refine TN_val (rr_lss rfl rfl (qF (by omega))) rfl rfl ?_ | refine TN_val (rr_add64 rfl rfl (by omega) (by omega) rfl) rfl rfl ?_)
      | refine TW_done ?_)
    refine TW_two rfl rfl ?_ ?_
    · refine TL_val (rr_loadB (i := 5) TyC.ty rfl rfl rfl) rfl rfl rfl (TW_on (sub_pick [3] (by decide) rfl) ?_)
      refine TW_one rfl (TL_callB [0, 1, 2] [3, 4, 5, 6] (by decide) rfl rfl (he3 EntersC.en rfl rfl rfl rfl) (fun w hm hb => hE b m n w _ hle hmk (ho.on hm (by intro o ho; simp at ho ⊢; rcases ho with h | h | h <;> simp [h])) hb) rfl rfl rfl ?_)
      rintro ⟨c', m', n'⟩ ⟨a1, a2⟩
      conv => arg 8; simp only [zA, zB, zC, zD, zE, zF, zG, zH, zI, rowS, ret, id_eq, endSp]
      refine TW_on (sub_pick [0] (by decide) rfl) ?_
      repeat (first
        | ((first | refine TW_plain rfl rfl ?_ | refine TW_gmet rfl rfl rfl rfl ?_); first | refine TN_val (qp rfl) rfl rfl ?_ | refine TN_val (qlen Und.eq rfl) rfl rfl ?_ | refine TN_val (rr_lss rfl rfl (qT (by omega))) rfl rfl ?_ | refine TN_val (rr_lss rfl rfl (qF (by omega))) rfl rfl ?_ | refine TN_val (rr_add64 rfl rfl (by omega) (by omega) rfl) rfl rfl ?_)
        | refine TW_done ?_)
      refine TW_call rfl (he2 EntersC.en rfl rfl rfl) (fun w hm => joinE c c' _) rfl rfl rfl ?_
      refine TW_one rfl (TL_storeB (i := 2) (cs' := (clsL (c.join c')).toArray) rfl rfl rfl rfl rfl rfl (TW_on (sub_pick [0] (by decide) rfl) ?_))
      repeat (first
        | ((first | refine TW_plain rfl rfl ?_ | refine TW_gmet rfl rfl rfl rfl ?_); first | refine TN_val (qp rfl) rfl rfl ?_ | refine TN_val (qlen Und.eq rfl) rfl rfl ?_ | refine TN_val (rr_lss rfl rfl (qT (by omega))) rfl rfl ?_ | refine TN_val (rr_lss rfl rfl (qF (by omega))) rfl rfl ?_ | refine TN_val (rr_add64 rfl rfl (by omega) (by omega) rfl) rfl rfl ?_)
        | refine TW_done ?_)
      repeat (first
        | refine qv rfl (qp rfl) rfl rfl ?_ | refine TL_nil ?_ | refine T_seq ?_ | refine T_region ?_ | refine qcT rfl ?_ | refine qcF rfl ?_ | refine T_skip ?_
        | refine T_exit ?_ | refine T_ret ?_ | refine T_block ?_ | refine E_then ?_ | refine E_thenX ?_ | refine E_thenR ?_ | refine E_blockN ?_
        | refine E_blockR ?_ | refine E_blockX ?_ | refine E_blockO rfl ?_ | refine qv rfl (qlen Und.eq rfl) rfl rfl ?_
        | refine qv rfl (rr_lss rfl rfl (qT (by omega))) rfl rfl ?_ | refine qv rfl (rr_lss rfl rfl (qF (by omega))) rfl rfl ?_
        | refine qv rfl (rr_add64 rfl rfl (by omega) (by omega) rfl) rfl rfl ?_)
      refine E_pick [4, 5, 6, 0, 1, 2, 3] (by decide) rfl ?_
      exact E_round (j + 1, c.join c', m', n') ⟨by show j + 1 ≤ (bytesL X).length; omega, hnx c' a1, a2⟩ (by show (bytesL X).length - (j + 1) < (bytesL X).length - j; omega) ⟨rfl, rfl, rfl, rfl, rfl, rfl, rfl, trivial⟩ rfl
    · refine TL_callB [0, 1, 2] [3, 4, 5, 6] (by decide) rfl rfl (he3 EntersC.en rfl rfl rfl rfl) (fun w hm hb => hE b m n w _ hle hmk (ho.on hm (by intro o ho; simp at ho ⊢; rcases ho with h | h | h <;> simp [h])) hb) rfl rfl rfl ?_
      rintro ⟨c', m', n'⟩ ⟨a1, a2⟩
      conv => arg 8; simp only [zA, zB, zC, zD, zE, zF, zG, zH, zI, rowS, ret, id_eq, endSp]
      refine TW_on (sub_pick [0] (by decide) rfl) ?_
      refine TW_one rfl (TL_val (rr_loadB (i := 2) TyC.ty rfl rfl rfl) rfl rfl rfl (TW_on (sub_pick [0] (by decide) rfl) ?_))
      repeat (first
        | ((first | refine TW_plain rfl rfl ?_ | refine TW_gmet rfl rfl rfl rfl ?_); first | refine TN_val (qp rfl) rfl rfl ?_ | refine TN_val (qlen Und.eq rfl) rfl rfl ?_ | refine TN_val (rr_lss rfl rfl (qT (by omega))) rfl rfl ?_ | refine TN_val (rr_lss rfl rfl (qF (by omega))) rfl rfl ?_ | refine TN_val (rr_add64 rfl rfl (by omega) (by omega) rfl) rfl rfl ?_)
        | refine TW_done ?_)
      refine TW_call rfl (he2 EntersC.en rfl rfl rfl) (fun w hm => joinE c c' _) rfl rfl rfl ?_
      refine TW_one rfl (TL_storeB (i := 2) (cs' := (clsL (c.join c')).toArray) rfl rfl rfl rfl rfl rfl (TW_on (sub_pick [0] (by decide) rfl) ?_))
      repeat (first
        | ((first | refine TW_plain rfl rfl ?_ | refine TW_gmet rfl rfl rfl rfl ?_); first | refine TN_val (qp rfl) rfl rfl ?_ | refine TN_val (qlen Und.eq rfl) rfl rfl ?_ | refine TN_val (rr_lss rfl rfl (qT (by omega))) rfl rfl ?_ | refine TN_val (rr_lss rfl rfl (qF (by omega))) rfl rfl ?_ | refine TN_val (rr_add64 rfl rfl (by omega) (by omega) rfl) rfl rfl ?_)
        | refine TW_done ?_)
      repeat (first
        | refine qv rfl (qp rfl) rfl rfl ?_ | refine TL_nil ?_ | refine T_seq ?_ | refine T_region ?_ | refine qcT rfl ?_ | refine qcF rfl ?_ | refine T_skip ?_
        | refine T_exit ?_ | refine T_ret ?_ | refine T_block ?_ | refine E_then ?_ | refine E_thenX ?_ | refine E_thenR ?_ | refine E_blockN ?_
        | refine E_blockR ?_ | refine E_blockX ?_ | refine E_blockO rfl ?_ | refine qv rfl (qlen Und.eq rfl) rfl rfl ?_
        | refine qv rfl (rr_lss rfl rfl (qT (by omega))) rfl rfl ?_ | refine qv rfl (rr_lss rfl rfl (qF (by omega))) rfl rfl ?_
        | refine qv rfl (rr_add64 rfl rfl (by omega) (by omega) rfl) rfl rfl ?_)
      refine E_pick [4, 5, 6, 0, 1, 2, 3] (by decide) rfl ?_
      exact E_round (j + 1, c.join c', m', n') ⟨by show j + 1 ≤ (bytesL X).length; omega, hnx c' a1, a2⟩ (by show (bytesL X).length - (j + 1) < (bytesL X).length - j; omega) ⟨rfl, rfl, rfl, rfl, rfl, rfl, rfl, trivial⟩ rfl
  · obtain rfl : j = (bytesL X).length := by omega
    repeat (first
      | refine qv rfl (qp rfl) rfl rfl ?_ | refine TL_nil ?_ | refine T_seq ?_ | refine T_region ?_ | refine qcT rfl ?_ | refine qcF rfl ?_ | refine T_skip ?_
      | refine T_exit ?_ | refine T_ret ?_ | refine T_block ?_ | refine E_then ?_ | refine E_thenX ?_ | refine E_thenR ?_ | refine E_blockN ?_
      | refine E_blockR ?_ | refine E_blockX ?_ | refine E_blockO rfl ?_ | refine qv rfl (rr_loadB (i := 5) TyC.ty rfl rfl rfl) rfl rfl ?_
      | refine qv rfl (qlen Und.eq rfl) rfl rfl ?_ | refine qv rfl (rr_lss rfl rfl (qT (by omega))) rfl rfl ?_
      | refine qv rfl (rr_lss rfl rfl (qF (by omega))) rfl rfl ?_ | refine qv rfl (rr_add64 rfl rfl (by omega) (by omega) rfl) rfl rfl ?_)
    refine TL_storeB (i := 4) (cs' := (clsL c).toArray) rfl rfl rfl rfl rfl rfl ?_
    conv => arg 8; simp only [zA, zB, zC, zD, zE, zF, zG, zH, zI, rowS, ret, id_eq]
    repeat (first
      | refine qv rfl (qp rfl) rfl rfl ?_ | refine TL_nil ?_ | refine T_seq ?_ | refine T_region ?_ | refine qcT rfl ?_ | refine qcF rfl ?_ | refine T_skip ?_
      | refine T_exit ?_ | refine T_ret ?_ | refine T_block ?_ | refine E_then ?_ | refine E_thenX ?_ | refine E_thenR ?_ | refine E_blockN ?_
      | refine E_blockR ?_ | refine E_blockX ?_ | refine E_blockO rfl ?_ | refine qv rfl (qlen Und.eq rfl) rfl rfl ?_
      | refine qv rfl (rr_lss rfl rfl (qT (by omega))) rfl rfl ?_ | refine qv rfl (rr_lss rfl rfl (qF (by omega))) rfl rfl ?_
      | refine qv rfl (rr_add64 rfl rfl (by omega) (by omega) rfl) rfl rfl ?_)
    refine E_retc1 (i := 4) rfl rfl rfl rfl fun w hm => ?_
    exact hm.meetsB (S := eachSp s N gs gm F w1 r X) (c, m, n) ⟨each_all hc, hmk⟩ [0, 1, 2] (by decide) rfl
end Go.Proofs.YtndbaalenclgaaaDoor.eng

/- LookOk -/
namespace Go.Proofs.YtndbaalenclgaaaDoor.eng
open Go.RowKit kit mix
section
variable {P : Program} {k : TypeId} {κ : Type} (K : KeyT P k κ)
variable {n : Nat} {W : Base} {fr : Fr} {L : List Own} {dst : Option Tmp} {ty : TypeId} {pos : String} {after : Array Edge} {guard : Option (Nat × Bool)} {i g c : Nat} {t e : TypeId} {m : κ → Option Value} {x : κ} {z v : Value} {xm xk : Operand}
theorem rr_lookOkS (ht : P.underlying t = some (.map k e)) (hz : ∀ w, (zeroValue e).run P w = .ok z w) (hi : L[i]? = some (mapO K g m c)) (hm : ev fr xm = some (.map (some g))) (hk : ev fr xk = some (K.kv x)) (hx : K.ok x) (hv : m x = some v) : RR P n W ⟨dst, .lookup t xm xk true, ty, pos, after, guard⟩ fr L (.tuple #[v, .bool true]) := by
  have := rr_lookOk K (n := n) (W := W) (dst := dst) (ty := ty) (pos := pos) (after := after) (guard := guard) ht hz hi hm hk hx
  rw [hv] at this; exact this
theorem rr_lookOkN (ht : P.underlying t = some (.map k e)) (hz : ∀ w, (zeroValue e).run P w = .ok z w) (hi : L[i]? = some (mapO K g m c)) (hm : ev fr xm = some (.map (some g))) (hk : ev fr xk = some (K.kv x)) (hx : K.ok x) (hv : m x = none) : RR P n W ⟨dst, .lookup t xm xk true, ty, pos, after, guard⟩ fr L (.tuple #[z, .bool false]) := by
  have := rr_lookOk K (n := n) (W := W) (dst := dst) (ty := ty) (pos := pos) (after := after) (guard := guard) ht hz hi hm hk hx
  rw [hv] at this; exact this
end
end Go.Proofs.YtndbaalenclgaaaDoor.eng

/- RexE -/
namespace Go.Proofs.YtndbaalenclgaaaDoor.eng
open Go.RowKit kit mix classL rexL classSets
theorem build_at (a b : Int) (w : World) : (Instr.build 93 #[(0, .int .i64 a), (1, .int .i64 b)]).run Tryd.prog w = .ok (atV (a, b)) w := by kernel_rfl
/-- the kids of a numbered node -/
theorem nkid_at {F : Nat → Prop} {w : World} {v : Value} {r : Re} {k : Nat} (h : SlF numS F w v (kidsK r k)) (h0 : 0 < (kidsK r k).length) :
    ∃ b off cap, v = .slice (some ⟨b, off, none⟩) (kidsK r k).length cap ∧ F b ∧ ∀ j (hj : j < (kidsK r k).length), ∃ vk v', Rd w b (off + j * 8) (numC (kidsK r k)[j].1 (kidsK r k)[j].2 vk v') ∧ vk.oneCell' = true ∧ v'.oneCell' = true ∧ NumIs F w (numC (kidsK r k)[j].1 (kidsK r k)[j].2 vk v') (kidsK r k)[j] := by
  obtain ⟨base, cap, rfl, h1, h2, h3⟩ := h
  obtain ⟨b, off, rfl, hF, hr⟩ := h3 h0
  refine ⟨b, off, cap, rfl, hF, fun j hj => ?_⟩
  obtain ⟨cs, h4, h5⟩ := hr j hj
  have h4 : NumIs F w cs (kidsK r k)[j] := h4
  generalize (kidsK r k)[j] = e at *
  obtain ⟨a, q⟩ := e
  have h4' := h4
  obtain ⟨vk, v', rfl, h6, h7⟩ := num_iff.1 h4
  obtain ⟨b2, c2, rfl, _⟩ := h7
  exact ⟨vk, _, h5, h6, rfl, h4'⟩
theorem num_cls {r : Re} {k : Nat} {vk u : Value} {j : Nat} {v : Value} (h : (clsL r.cls)[j]? = some v) : (numC r k vk u).toArray[0 + 0 + 1 + j]? = some v := by
  have hj : j < (clsL r.cls).length := (List.getElem?_eq_some_iff.1 h).1
  rw [List.getElem?_toArray, show 0 + 0 + 1 + j = j + 1 by omega]
  show (clsL r.cls ++ [vk, .int .i64 (k : Int), u])[j]? = _
  rw [List.getElem?_append_left hj]; exact h
theorem endC_zero {s : List UInt8} {r : Re} {f : Nat} (h : ∀ j, ¬ EndP r s f j) : EndC s r f C4.zero := fun j _ => by rw [zero_mem]; simp [h j]
theorem endC_range {s : List UInt8} {r : Re} {f q : Nat} (h : ∀ j, EndP r s f j ↔ j = q) : EndC s r f (rangeF q q) := fun j hj => by
  rw [range_mem _ _ _ hj, h j, decide_eq_true_eq]; omega
theorem endC_alt {s : List UInt8} {a b : Re} {f : Nat} {x y : C4} (h : EndC s a f x) (h' : EndC s b f y) : EndC s (.alt a b) f (x.join y) := fun j hj => by
  rw [join_mem, Bool.or_eq_true, h j hj, h' j hj, end_alt]
theorem endC_le {s : List UInt8} {a : Re} {f : Nat} {x : C4} (h : EndC s a f x) (i : Nat) (hi : i < 256) (hx : x.mem i = true) : i ≤ s.length := ((h i hi).1 hx).2.1
theorem endC_cat {s : List UInt8} (hs : s.length ≤ 200) {a b : Re} {f : Nat} {x y : C4} (h : EndC s a f x) (h' : EachC s b x y) : EndC s (.cat a b) f y := fun j hj => by
  rw [h' j hj, end_cat]
  constructor
  · rintro ⟨i, h1, h2, h3⟩
    exact ⟨i, (h i h1).1 h2, h3⟩
  · rintro ⟨i, h2, h3⟩
    have : i < 256 := by have := h2.2.1; omega
    exact ⟨i, this, (h i this).2 h2, h3⟩
/-- on a star's way -/
structure StI (s : List UInt8) (a : Re) (f : Nat) (out now : C4) : Prop where
  sound : ∀ j, j < 256 → out.mem j = true → Rch (EndP a s) f j
  sub : ∀ j, j < 256 → now.mem j = true → out.mem j = true
  cl : ∀ i, i < 256 → out.mem i = true → now.mem i = false → ∀ j, EndP a s i j → out.mem j = true
  st : out.mem f = true
theorem sti0 {s : List UInt8} (hs : s.length ≤ 200) {a : Re} {f : Nat} (hf : f ≤ s.length) : StI s a f (rangeF f f) (rangeF f f) := by
  have hm : ∀ j, j < 256 → ((rangeF f f).mem j = true ↔ j = f) := fun j hj => by rw [range_mem _ _ _ hj, decide_eq_true_eq]; omega
  refine ⟨fun j hj h => ?_, fun j hj h => h, fun i hi h h' => ?_, (hm f (by omega)).2 rfl⟩
  · rw [(hm j hj).1 h]; exact .refl
  · rw [h] at h'; cases h'
theorem StI.le {s : List UInt8} {a : Re} {f : Nat} {out now : C4} (h : StI s a f out now) (hf : f ≤ s.length) (j : Nat) (hj : j < 256) (hn : now.mem j = true) : j ≤ s.length :=
  ((end_star hf).2 (h.sound j hj (h.sub j hj hn))).2.1
theorem sti_next {s : List UInt8} (hs : s.length ≤ 200) {a : Re} {f : Nat} {out now e : C4} (h : StI s a f out now) (he : EachC s a now e) : StI s a f (out.join (e.meet out.not)) (e.meet out.not) := by
  have hm : ∀ j, (e.meet out.not).mem j = (e.mem j && !out.mem j) := fun j => by rw [meet_mem, not_mem]
  refine ⟨fun j hj hq => ?_, fun j hj hq => ?_, fun i hi hq hq' j hj => ?_, ?_⟩
  · rw [join_mem, Bool.or_eq_true] at hq
    rcases hq with hq | hq
    · exact h.sound j hj hq
    · rw [hm, Bool.and_eq_true] at hq
      obtain ⟨i, h1, h2, h3⟩ := (he j hj).1 hq.1
      exact .step (h.sound i h1 (h.sub i h1 h2)) h3
  · rw [join_mem, hq, Bool.or_true]
  · have hj256 : j < 256 := by have := hj.2.1; omega
    rw [join_mem, hm, Bool.or_eq_true] at hq
    rw [join_mem, hm]
    rw [hm] at hq'
    have hi1 : out.mem i = true := by
      rcases hq with hq | hq
      · exact hq
      · rw [hq] at hq'; cases hq'
    cases c : now.mem i with
    | false => rw [h.cl i hi hi1 c j hj]; rfl
    | true =>
      have := (he j hj256).2 ⟨i, hi, c, hj⟩
      rw [this]
      cases out.mem j <;> rfl
  · rw [join_mem, h.st]; rfl
theorem sti_end {s : List UInt8} (hs : s.length ≤ 200) {a : Re} {f : Nat} {out : C4} (hf : f ≤ s.length) (h : StI s a f out C4.zero) : EndC s (.star a) f out := fun j hj => by
  rw [end_star hf]
  refine ⟨h.sound j hj, fun hr => ?_⟩
  have : ∀ j, Rch (EndP a s) f j → out.mem j = true := fun j hr => by
    induction hr with
    | refl => exact h.st
    | step _ h2 ih =>
      rename_i i j h1
      have : i < 256 := by have := h2.1; have := h2.2.1; omega
      exact h.cl i this ih (zero_mem i) j h2
  exact this j hr
def muS (out now : C4) : Nat := 2 * (256 - cnt out) + if now = C4.zero then 0 else 1
theorem cnt_zero : cnt C4.zero = 0 := by
  unfold cnt
  rw [List.length_eq_zero_iff, bytesL, List.filter_eq_nil_iff]
  intro j _
  rw [zero_mem]; decide
theorem cnt_pos {x : C4} (h : x ≠ C4.zero) : 0 < cnt x := by
  refine Nat.pos_of_ne_zero fun h0 => h ?_
  have : bytesL x = [] := List.length_eq_zero_iff.1 h0
  refine ext_mem fun n hn => ?_
  rw [zero_mem]
  cases e : x.mem n with
  | false => rfl
  | true => have := mem_bytes.2 ⟨hn, e⟩; rw [‹bytesL x = []›] at this; cases this
theorem mu_next {out now e : C4} (h : now ≠ C4.zero) : muS (out.join (e.meet out.not)) (e.meet out.not) < muS out now := by
  unfold muS
  rw [if_neg h]
  have h1 := cnt_or_and out (e.meet out.not)
  have h2 : out.meet (e.meet out.not) = C4.zero := ext_mem fun n _ => by
    rw [meet_mem, meet_mem, not_mem, zero_mem]
    cases out.mem n <;> simp
  rw [h2, cnt_zero] at h1
  have h3 := cnt_le (out.join (e.meet out.not))
  by_cases c : e.meet out.not = C4.zero
  · rw [if_pos c]
    rw [c, cnt_zero] at h1
    rw [c]
    omega
  · rw [if_neg c]
    have := cnt_pos c
    omega
set_option maxRecDepth 100000 in
set_option maxHeartbeats 32000000 in
theorem ends_calls (w0 : World) (hT : TabW w0) (s : List UInt8) (hs : s.length ≤ 200) (N : Nat → Re) (gs gm : Nat) (F : Nat → Prop) (w1 : World) : ∀ (M : Nat) (r : Re), r.size ≤ M → ∀ (k : Nat) (cs : List Value), NumIs F w1 cs (r, k) → Con N r k → k + r.size ≤ 100 → EndsOk w0 s N gs gm F w1 r cs
  | 0, r, h, _, _, _, _, _ => by have := r.size_pos; omega
  | M + 1, r, hM, k, cs, hnum, hcon, hk100 => by
    intro f m n w B hf hmk ho hm
    have IH := ends_calls w0 hT s hs N gs gm F w1 M
    obtain ⟨vk, v, rfl, h1k, hks⟩ := num_iff.1 hnum
    have hNk := con_self hcon
    have hpos := r.size_pos
    have h1v : v.oneCell' = true := by obtain ⟨b, c, rfl, _⟩ := hks; rfl
    have hkey : kit.okI64 (k : Int) ∧ kit.okI64 (f : Int) := ⟨⟨by omega, by omega⟩, by omega, by omega⟩
    have hba := build_at k f
    have hzc := zeroCls
    refine enterB hm (args := [.pointer (some ⟨gs, 0, none⟩), .agg (numC r k vk v).toArray, .int .i64 (f : Int)]) (n := 125) Tryd.func29 rfl rfl rfl ?_
    clear hm
    refine T_seq (T_region (TL_box rfl rfl rfl fun g4 => TL_new rfl fun g6 => ?_))
    conv => arg 8; simp only [zA, zB, zC, zD, zE, zF, zG, zH, zI, rowS, ret, id_eq]
    repeat (first
      | refine qv rfl (qp rfl) rfl rfl ?_ | refine TL_nil ?_ | refine T_seq ?_ | refine T_region ?_ | refine qcT rfl ?_ | refine qcF rfl ?_ | refine T_skip ?_
      | refine T_exit ?_ | refine T_ret ?_ | refine T_block ?_ | refine E_then ?_ | refine E_thenX ?_ | refine E_thenR ?_ | refine E_blockN ?_
      | refine E_blockR ?_ | refine E_blockX ?_ | refine E_blockO rfl ?_ | refine qs rfl rfl rfl rfl rfl rfl ?_
      | ((try refine qg rfl rfl rfl ?_); first | refine qv rfl (qp rfl) rfl rfl ?_ | refine qv rfl (rr_load1 TyC.ty rfl (at_blk (i := 3) rfl rfl)) rfl rfl ?_ | refine qv rfl (rr_build rfl hba) rfl rfl ?_ | refine qv rfl (rr_strlen Und.eq rfl) rfl rfl ?_ | refine qv rfl (qfld FldC.fld rfl rfl) rfl rfl ?_ | refine qv rfl (rr_nilc rfl) rfl rfl ?_ | refine qv rfl (rr_lss rfl rfl (qT (by omega))) rfl rfl ?_ | refine qv rfl (rr_lss rfl rfl (qF (by omega))) rfl rfl ?_ | refine qv rfl (rr_eql rfl rfl (qT (by omega))) rfl rfl ?_ | refine qv rfl (rr_eql rfl rfl (qF (by omega))) rfl rfl ?_ | refine qv rfl (rr_add64 rfl rfl (by omega) (by omega) rfl) rfl rfl ?_))
    refine TL_new rfl fun g7 => ?_
    conv => arg 8; simp only [zA, zB, zC, zD, zE, zF, zG, zH, zI, rowS, ret, id_eq]
    refine TL_storeB (i := 5) (cs' := (atC (k, f)).toArray) rfl rfl rfl rfl rfl rfl ?_
    conv => arg 8; simp only [zA, zB, zC, zD, zE, zF, zG, zH, zI, rowS, ret, id_eq]
    repeat (first
      | refine qv rfl (qp rfl) rfl rfl ?_ | refine TL_nil ?_ | refine T_seq ?_ | refine T_region ?_ | refine qcT rfl ?_ | refine qcF rfl ?_ | refine T_skip ?_
      | refine T_exit ?_ | refine T_ret ?_ | refine T_block ?_ | refine E_then ?_ | refine E_thenX ?_ | refine E_thenR ?_ | refine E_blockN ?_
      | refine E_blockR ?_ | refine E_blockX ?_ | refine E_blockO rfl ?_ | refine qs rfl rfl rfl rfl rfl rfl ?_
      | ((try refine qg rfl rfl rfl ?_); first | refine qv rfl (qp rfl) rfl rfl ?_ | refine qv rfl (rr_strlen Und.eq rfl) rfl rfl ?_ | refine qv rfl (qfld FldC.fld rfl rfl) rfl rfl ?_ | refine qv rfl (rr_nilc rfl) rfl rfl ?_ | refine qv rfl (rr_lss rfl rfl (qT (by omega))) rfl rfl ?_ | refine qv rfl (rr_lss rfl rfl (qF (by omega))) rfl rfl ?_ | refine qv rfl (rr_eql rfl rfl (qT (by omega))) rfl rfl ?_ | refine qv rfl (rr_eql rfl rfl (qF (by omega))) rfl rfl ?_ | refine qv rfl (rr_add64 rfl rfl (by omega) (by omega) rfl) rfl rfl ?_))
    unfold spO mO
    cases e : m ((k : Int), (f : Int)) with
    | some vc =>
      obtain ⟨c, rfl, hc⟩ := hmk.val k f vc (by omega) hf e
      rw [hNk] at hc
      (repeat refine T_seq ?_)
      refine T_ord ([blkO gs #[str s, .map (some gm)] 74, mapO atK gm m n, blkO g7 (atC (k, f)).toArray 93]) (.calm 0 (.calm 1 (.calm 2 (.calm 3 (.calm 4 (.calm 5 (.calm 6 (.calm 7 (.calm 8 (.one 9 (.one 10 (.calm 11 (.done))))))))))))) (sub_pick [0, 1, 5] (by decide) rfl) (by kernel_rfl) (by kernel_rfl) (by intro c a d v w h; cases d <;> exact h) ?_
      repeat (first
        | ((first | refine TW_plain rfl rfl ?_ | refine TW_gmet rfl rfl rfl rfl ?_); first | refine TN_val (qp rfl) rfl rfl ?_ | refine TN_val (rr_nilc rfl) rfl rfl ?_ | refine TN_val (rr_load1 TyC.ty rfl (at_blk (i := 0) rfl rfl)) rfl rfl ?_ | refine TN_val (rr_loadB (i := 2) TyC.ty rfl rfl rfl) rfl rfl ?_ | refine TN_val (rr_lookOkS atK (x := (k, f)) Und.eq hzc (i := 1) rfl rfl rfl hkey e) rfl rfl ?_ | refine TN_val (rr_strlen Und.eq rfl) rfl rfl ?_ | refine TN_val (qfld FldC.fld rfl rfl) rfl rfl ?_ | refine TN_val (rr_nilc rfl) rfl rfl ?_ | refine TN_val (rr_lss rfl rfl (qT (by omega))) rfl rfl ?_ | refine TN_val (rr_lss rfl rfl (qF (by omega))) rfl rfl ?_ | refine TN_val (rr_eql rfl rfl (qT (by omega))) rfl rfl ?_ | refine TN_val (rr_eql rfl rfl (qF (by omega))) rfl rfl ?_ | refine TN_val (rr_add64 rfl rfl (by omega) (by omega) rfl) rfl rfl ?_)
        | refine TW_skip rfl rfl rfl rfl rfl rfl rfl ?_ | refine TW_done ?_)
      refine TW_one rfl (TL_new rfl fun g8 => TW_on (sub_pick [0, 1, 5] (by decide) rfl) ?_)
      refine TW_one rfl (TL_storeB (i := 6) (cs' := (clsL c).toArray) rfl rfl rfl rfl rfl rfl (TW_on (sub_pick [0, 1, 5] (by decide) rfl) ?_))
      repeat (first
        | ((first | refine TW_plain rfl rfl ?_ | refine TW_gmet rfl rfl rfl rfl ?_); first | refine TN_val (qp rfl) rfl rfl ?_ | refine TN_val (rr_strlen Und.eq rfl) rfl rfl ?_ | refine TN_val (qfld FldC.fld rfl rfl) rfl rfl ?_ | refine TN_val (rr_nilc rfl) rfl rfl ?_ | refine TN_val (rr_lss rfl rfl (qT (by omega))) rfl rfl ?_ | refine TN_val (rr_lss rfl rfl (qF (by omega))) rfl rfl ?_ | refine TN_val (rr_eql rfl rfl (qT (by omega))) rfl rfl ?_ | refine TN_val (rr_eql rfl rfl (qF (by omega))) rfl rfl ?_ | refine TN_val (rr_add64 rfl rfl (by omega) (by omega) rfl) rfl rfl ?_)
        | refine TW_skip rfl rfl rfl rfl rfl rfl rfl ?_ | refine TW_done ?_)
      repeat (first
        | refine qv rfl (qp rfl) rfl rfl ?_ | refine TL_nil ?_ | refine T_seq ?_ | refine T_region ?_ | refine qcT rfl ?_ | refine qcF rfl ?_ | refine T_skip ?_
        | refine T_exit ?_ | refine T_ret ?_ | refine T_block ?_ | refine E_then ?_ | refine E_thenX ?_ | refine E_thenR ?_ | refine E_blockN ?_
        | refine E_blockR ?_ | refine E_blockX ?_ | refine E_blockO rfl ?_ | refine qs rfl rfl rfl rfl rfl rfl ?_
        | ((try refine qg rfl rfl rfl ?_); first | refine qv rfl (qp rfl) rfl rfl ?_ | refine qv rfl (rr_loadB (i := 6) TyC.ty rfl rfl rfl) rfl rfl ?_ | refine qv rfl (rr_strlen Und.eq rfl) rfl rfl ?_ | refine qv rfl (qfld FldC.fld rfl rfl) rfl rfl ?_ | refine qv rfl (rr_nilc rfl) rfl rfl ?_ | refine qv rfl (rr_lss rfl rfl (qT (by omega))) rfl rfl ?_ | refine qv rfl (rr_lss rfl rfl (qF (by omega))) rfl rfl ?_ | refine qv rfl (rr_eql rfl rfl (qT (by omega))) rfl rfl ?_ | refine qv rfl (rr_eql rfl rfl (qF (by omega))) rfl rfl ?_ | refine qv rfl (rr_add64 rfl rfl (by omega) (by omega) rfl) rfl rfl ?_))
      refine TL_storeB (i := 4) (cs' := (clsL c).toArray) rfl rfl rfl rfl rfl rfl ?_
      conv => arg 8; simp only [zA, zB, zC, zD, zE, zF, zG, zH, zI, rowS, ret, id_eq]
      repeat (first
        | refine qv rfl (qp rfl) rfl rfl ?_ | refine TL_nil ?_ | refine T_seq ?_ | refine T_region ?_ | refine qcT rfl ?_ | refine qcF rfl ?_ | refine T_skip ?_
        | refine T_exit ?_ | refine T_ret ?_ | refine T_block ?_ | refine E_then ?_ | refine E_thenX ?_ | refine E_thenR ?_ | refine E_blockN ?_
        | refine E_blockR ?_ | refine E_blockX ?_ | refine E_blockO rfl ?_ | refine qs rfl rfl rfl rfl rfl rfl ?_
        | ((try refine qg rfl rfl rfl ?_); first | refine qv rfl (qp rfl) rfl rfl ?_ | refine qv rfl (rr_strlen Und.eq rfl) rfl rfl ?_ | refine qv rfl (qfld FldC.fld rfl rfl) rfl rfl ?_ | refine qv rfl (rr_nilc rfl) rfl rfl ?_ | refine qv rfl (rr_lss rfl rfl (qT (by omega))) rfl rfl ?_ | refine qv rfl (rr_lss rfl rfl (qF (by omega))) rfl rfl ?_ | refine qv rfl (rr_eql rfl rfl (qT (by omega))) rfl rfl ?_ | refine qv rfl (rr_eql rfl rfl (qF (by omega))) rfl rfl ?_ | refine qv rfl (rr_add64 rfl rfl (by omega) (by omega) rfl) rfl rfl ?_))
      refine E_retc1 (i := 4) rfl rfl rfl rfl fun w hm => ?_
      exact hm.meetsB (S := endSp s N gs gm F w1 r f) (c, m, n) ⟨hc, hmk⟩ [0, 1, 2] (by decide) rfl
    | none =>
      (repeat refine T_seq ?_)
      refine T_ord ([blkO gs #[str s, .map (some gm)] 74, mapO atK gm m n, blkO g7 (atC (k, f)).toArray 93]) (.calm 0 (.calm 1 (.calm 2 (.calm 3 (.calm 4 (.calm 5 (.calm 6 (.calm 7 (.calm 8 (.one 9 (.one 10 (.calm 11 (.done))))))))))))) (sub_pick [0, 1, 5] (by decide) rfl) (by kernel_rfl) (by kernel_rfl) (by intro c a d v w h; cases d <;> exact h) ?_
      repeat (first
        | ((first | refine TW_plain rfl rfl ?_ | refine TW_gmet rfl rfl rfl rfl ?_); first | refine TN_val (qp rfl) rfl rfl ?_ | refine TN_val (rr_nilc rfl) rfl rfl ?_ | refine TN_val (rr_load1 TyC.ty rfl (at_blk (i := 0) rfl rfl)) rfl rfl ?_ | refine TN_val (rr_loadB (i := 2) TyC.ty rfl rfl rfl) rfl rfl ?_ | refine TN_val (rr_lookOkN atK (x := (k, f)) Und.eq hzc (i := 1) rfl rfl rfl hkey e) rfl rfl ?_ | refine TN_val (rr_strlen Und.eq rfl) rfl rfl ?_ | refine TN_val (qfld FldC.fld rfl rfl) rfl rfl ?_ | refine TN_val (rr_nilc rfl) rfl rfl ?_ | refine TN_val (rr_lss rfl rfl (qT (by omega))) rfl rfl ?_ | refine TN_val (rr_lss rfl rfl (qF (by omega))) rfl rfl ?_ | refine TN_val (rr_eql rfl rfl (qT (by omega))) rfl rfl ?_ | refine TN_val (rr_eql rfl rfl (qF (by omega))) rfl rfl ?_ | refine TN_val (rr_add64 rfl rfl (by omega) (by omega) rfl) rfl rfl ?_)
        | refine TW_skip rfl rfl rfl rfl rfl rfl rfl ?_ | refine TW_done ?_)
      refine TW_one rfl (TL_new rfl fun g8 => TW_on (sub_pick [0, 1, 5] (by decide) rfl) ?_)
      refine TW_one rfl (TL_storeB (i := 6) (cs' := (clsL C4.zero).toArray) rfl rfl rfl rfl rfl rfl (TW_on (sub_pick [0, 1, 5] (by decide) rfl) ?_))
      repeat (first
        | ((first | refine TW_plain rfl rfl ?_ | refine TW_gmet rfl rfl rfl rfl ?_); first | refine TN_val (qp rfl) rfl rfl ?_ | refine TN_val (rr_strlen Und.eq rfl) rfl rfl ?_ | refine TN_val (qfld FldC.fld rfl rfl) rfl rfl ?_ | refine TN_val (rr_nilc rfl) rfl rfl ?_ | refine TN_val (rr_lss rfl rfl (qT (by omega))) rfl rfl ?_ | refine TN_val (rr_lss rfl rfl (qF (by omega))) rfl rfl ?_ | refine TN_val (rr_eql rfl rfl (qT (by omega))) rfl rfl ?_ | refine TN_val (rr_eql rfl rfl (qF (by omega))) rfl rfl ?_ | refine TN_val (rr_add64 rfl rfl (by omega) (by omega) rfl) rfl rfl ?_)
        | refine TW_skip rfl rfl rfl rfl rfl rfl rfl ?_ | refine TW_done ?_)
      repeat (first
        | refine qv rfl (qp rfl) rfl rfl ?_ | refine TL_nil ?_ | refine T_seq ?_ | refine T_region ?_ | refine qcT rfl ?_ | refine qcF rfl ?_ | refine T_skip ?_
        | refine T_exit ?_ | refine T_ret ?_ | refine T_block ?_ | refine E_then ?_ | refine E_thenX ?_ | refine E_thenR ?_ | refine E_blockN ?_
        | refine E_blockR ?_ | refine E_blockX ?_ | refine E_blockO rfl ?_ | refine qs rfl rfl rfl rfl rfl rfl ?_
        | ((try refine qg rfl rfl rfl ?_); first | refine qv rfl (qp rfl) rfl rfl ?_ | refine qv rfl (rr_strlen Und.eq rfl) rfl rfl ?_ | refine qv rfl (qfld FldC.fld rfl rfl) rfl rfl ?_ | refine qv rfl (rr_nilc rfl) rfl rfl ?_ | refine qv rfl (rr_lss rfl rfl (qT (by omega))) rfl rfl ?_ | refine qv rfl (rr_lss rfl rfl (qF (by omega))) rfl rfl ?_ | refine qv rfl (rr_eql rfl rfl (qT (by omega))) rfl rfl ?_ | refine qv rfl (rr_eql rfl rfl (qF (by omega))) rfl rfl ?_ | refine qv rfl (rr_add64 rfl rfl (by omega) (by omega) rfl) rfl rfl ?_))
      refine TL_new rfl fun g10 => ?_
      conv => arg 8; simp only [zA, zB, zC, zD, zE, zF, zG, zH, zI, rowS, ret, id_eq]
      repeat (first
        | refine qv rfl (qp rfl) rfl rfl ?_ | refine TL_nil ?_ | refine E_then ?_ | refine qs rfl rfl rfl rfl rfl rfl ?_
        | ((try refine qg rfl rfl rfl ?_); first | refine qv rfl (qp rfl) rfl rfl ?_ | refine qv rfl (rr_strlen Und.eq rfl) rfl rfl ?_ | refine qv rfl (qfld FldC.fld rfl rfl) rfl rfl ?_ | refine qv rfl (rr_nilc rfl) rfl rfl ?_ | refine qv rfl (rr_lss rfl rfl (qT (by omega))) rfl rfl ?_ | refine qv rfl (rr_lss rfl rfl (qF (by omega))) rfl rfl ?_ | refine qv rfl (rr_eql rfl rfl (qT (by omega))) rfl rfl ?_ | refine qv rfl (rr_eql rfl rfl (qF (by omega))) rfl rfl ?_ | refine qv rfl (rr_add64 rfl rfl (by omega) (by omega) rfl) rfl rfl ?_))
      (repeat refine T_seq ?_)
      refine T_region ?_
      repeat (first
        | refine qv rfl (qp rfl) rfl rfl ?_ | refine TL_nil ?_ | refine E_then ?_ | refine qs rfl rfl rfl rfl rfl rfl ?_
        | ((try refine qg rfl rfl rfl ?_); first | refine qv rfl (qp rfl) rfl rfl ?_ | refine qv rfl (rr_load1 (v := .int .i64 r.kind) TyC.ty rfl (at_blk (i := 3) rfl rfl)) rfl rfl ?_ | refine qv rfl (rr_strlen Und.eq rfl) rfl rfl ?_ | refine qv rfl (qfld FldC.fld rfl rfl) rfl rfl ?_ | refine qv rfl (rr_nilc rfl) rfl rfl ?_ | refine qv rfl (rr_lss rfl rfl (qT (by omega))) rfl rfl ?_ | refine qv rfl (rr_lss rfl rfl (qF (by omega))) rfl rfl ?_ | refine qv rfl (rr_eql rfl rfl (qT (by omega))) rfl rfl ?_ | refine qv rfl (rr_eql rfl rfl (qF (by omega))) rfl rfl ?_ | refine qv rfl (rr_add64 rfl rfl (by omega) (by omega) rfl) rfl rfl ?_))
      (repeat refine T_seq ?_)
      refine T_midq (ι := EIx) (fun x => EndC s r f x.1 ∧ MOk s N x.2.1 x.2.2) (fun _ => [(0, .pointer (some ⟨gs, 0, none⟩)), (6, .pointer (some ⟨g6, 0, none⟩)), (7, .pointer (some ⟨g7, 0, none⟩)), (10, .pointer (some ⟨g10, 0, none⟩))])
        (fun x => [blkO gs #[str s, .map (some gm)] 74, mapO atK gm x.2.1 x.2.2, frozO F w1, blkO g6 (clsL C4.zero).toArray 34, blkO g7 (atC (k, f)).toArray 93, blkO g10 (clsL x.1).toArray 34]) ?_ ?_
      · cases r with
        | none =>
          conv => arg 6; simp only [Re.kind]
          repeat (first
            | refine qv rfl (qp rfl) rfl rfl ?_ | refine TL_nil ?_ | refine T_seq ?_ | refine T_region ?_ | refine qcT rfl ?_ | refine qcF rfl ?_ | refine T_skip ?_
            | refine T_exit ?_ | refine T_ret ?_ | refine T_block ?_ | refine E_then ?_ | refine E_thenX ?_ | refine E_thenR ?_ | refine E_blockN ?_
            | refine E_blockR ?_ | refine E_blockX ?_ | refine E_blockO rfl ?_ | refine qs rfl rfl rfl rfl rfl rfl ?_
            | ((try refine qg rfl rfl rfl ?_); first | refine qv rfl (qp rfl) rfl rfl ?_ | refine qv rfl (rr_strlen Und.eq rfl) rfl rfl ?_ | refine qv rfl (qfld FldC.fld rfl rfl) rfl rfl ?_ | refine qv rfl (rr_nilc rfl) rfl rfl ?_ | refine qv rfl (rr_lss rfl rfl (qT (by omega))) rfl rfl ?_ | refine qv rfl (rr_lss rfl rfl (qF (by omega))) rfl rfl ?_ | refine qv rfl (rr_eql rfl rfl (qT (by omega))) rfl rfl ?_ | refine qv rfl (rr_eql rfl rfl (qF (by omega))) rfl rfl ?_ | refine qv rfl (rr_add64 rfl rfl (by omega) (by omega) rfl) rfl rfl ?_))
          refine E_pick [0, 1, 2, 4, 5, 7] (by decide) rfl ?_
          exact E_mid (C4.zero, m, n) ⟨endC_zero fun j h => h.2.2, hmk⟩ (by repeat' (first | exact True.intro | refine And.intro rfl ?_)) rfl
        | empty =>
          conv => arg 6; simp only [Re.kind]
          have hrg := fun w => rangeE f f hkey.2 hkey.2 w
          repeat (first
            | refine qv rfl (qp rfl) rfl rfl ?_ | refine TL_nil ?_ | refine T_seq ?_ | refine T_region ?_ | refine qcT rfl ?_ | refine qcF rfl ?_ | refine T_skip ?_
            | refine T_exit ?_ | refine T_ret ?_ | refine T_block ?_ | refine E_then ?_ | refine E_thenX ?_ | refine E_thenR ?_ | refine E_blockN ?_
            | refine E_blockR ?_ | refine E_blockX ?_ | refine E_blockO rfl ?_ | refine qs rfl rfl rfl rfl rfl rfl ?_
            | ((try refine qg rfl rfl rfl ?_); first | refine qv rfl (qp rfl) rfl rfl ?_ | refine qv rfl (rr_strlen Und.eq rfl) rfl rfl ?_ | refine qv rfl (qfld FldC.fld rfl rfl) rfl rfl ?_ | refine qv rfl (rr_nilc rfl) rfl rfl ?_ | refine qv rfl (rr_lss rfl rfl (qT (by omega))) rfl rfl ?_ | refine qv rfl (rr_lss rfl rfl (qF (by omega))) rfl rfl ?_ | refine qv rfl (rr_eql rfl rfl (qT (by omega))) rfl rfl ?_ | refine qv rfl (rr_eql rfl rfl (qF (by omega))) rfl rfl ?_ | refine qv rfl (rr_add64 rfl rfl (by omega) (by omega) rfl) rfl rfl ?_))
          refine TL_call (he2 EntersC.en rfl rfl rfl) (fun w hm => hrg _) rfl rfl rfl ?_
          intro _ _
          conv => arg 8; simp only [zA, zB, zC, zD, zE, zF, zG, zH, zI, rowS, ret, id_eq]
          refine TL_storeB (i := 7) (cs' := (clsL (rangeF f f)).toArray) rfl rfl rfl rfl rfl rfl ?_
          conv => arg 8; simp only [zA, zB, zC, zD, zE, zF, zG, zH, zI, rowS, ret, id_eq]
          repeat (first
            | refine qv rfl (qp rfl) rfl rfl ?_ | refine TL_nil ?_ | refine T_seq ?_ | refine T_region ?_ | refine qcT rfl ?_ | refine qcF rfl ?_ | refine T_skip ?_
            | refine T_exit ?_ | refine T_ret ?_ | refine T_block ?_ | refine E_then ?_ | refine E_thenX ?_ | refine E_thenR ?_ | refine E_blockN ?_
            | refine E_blockR ?_ | refine E_blockX ?_ | refine E_blockO rfl ?_ | refine qs rfl rfl rfl rfl rfl rfl ?_
            | ((try refine qg rfl rfl rfl ?_); first | refine qv rfl (qp rfl) rfl rfl ?_ | refine qv rfl (rr_strlen Und.eq rfl) rfl rfl ?_ | refine qv rfl (qfld FldC.fld rfl rfl) rfl rfl ?_ | refine qv rfl (rr_nilc rfl) rfl rfl ?_ | refine qv rfl (rr_lss rfl rfl (qT (by omega))) rfl rfl ?_ | refine qv rfl (rr_lss rfl rfl (qF (by omega))) rfl rfl ?_ | refine qv rfl (rr_eql rfl rfl (qT (by omega))) rfl rfl ?_ | refine qv rfl (rr_eql rfl rfl (qF (by omega))) rfl rfl ?_ | refine qv rfl (rr_add64 rfl rfl (by omega) (by omega) rfl) rfl rfl ?_))
          refine E_pick [0, 1, 2, 4, 5, 7] (by decide) rfl ?_
          exact E_mid (rangeF f f, m, n) ⟨endC_range fun j => end_empty hf, hmk⟩ (by repeat' (first | exact True.intro | refine And.intro rfl ?_)) rfl
        | byte c =>
          conv => arg 6; simp only [Re.kind]
          by_cases c1 : f < s.length
          · have hrg := fun w => rangeE ((f + 1 : Nat) : Int) ((f + 1 : Nat) : Int) ⟨by omega, by omega⟩ ⟨by omega, by omega⟩ w
            have hb : s[((f : Int)).toNat]? = some s[f] := by rw [Int.toNat_natCast]; exact List.getElem?_eq_getElem c1
            have hh := fun w => has_calls c (s[f]).toNat (s[f]).toNat_lt w
            have hend : ∀ j, EndP (.byte c) s f j ↔ j = f + 1 ∧ c.mem (s[f]).toNat = true := fun j => by rw [end_byte]; exact ⟨fun ⟨_, h⟩ => h, fun h => ⟨c1, h⟩⟩
            generalize s[f] = b at *
            generalize hD : c.mem b.toNat = D at *
            repeat (first
              | refine qv rfl (qp rfl) rfl rfl ?_ | refine TL_nil ?_ | refine T_seq ?_ | refine T_region ?_ | refine qcT rfl ?_ | refine qcF rfl ?_ | refine T_skip ?_
              | refine T_exit ?_ | refine T_ret ?_ | refine T_block ?_ | refine E_then ?_ | refine E_thenX ?_ | refine E_thenR ?_ | refine E_blockN ?_
              | refine E_blockR ?_ | refine E_blockX ?_ | refine E_blockO rfl ?_ | refine qs rfl rfl rfl rfl rfl rfl ?_
              | ((try refine qg rfl rfl rfl ?_); first | refine qv rfl (qp rfl) rfl rfl ?_ | refine qv rfl (rr_strlen Und.eq rfl) rfl rfl ?_ | refine qv rfl (qfld FldC.fld rfl rfl) rfl rfl ?_ | refine qv rfl (rr_nilc rfl) rfl rfl ?_ | refine qv rfl (rr_lss rfl rfl (qT (by omega))) rfl rfl ?_ | refine qv rfl (rr_lss rfl rfl (qF (by omega))) rfl rfl ?_ | refine qv rfl (rr_eql rfl rfl (qT (by omega))) rfl rfl ?_ | refine qv rfl (rr_eql rfl rfl (qF (by omega))) rfl rfl ?_ | refine qv rfl (rr_add64 rfl rfl (by omega) (by omega) rfl) rfl rfl ?_))
            (repeat refine T_seq ?_)
            refine T_ord ([blkO gs #[str s, .map (some gm)] 74, blkO g4 (numC (.byte c) k vk v).toArray 78]) (.calm 0 (.calm 1 (.calm 2 (.calm 3 (.calm 4 (.calm 5 (.calm 6 (.calm 7 (.calm 8 (.calm 9 (.calm 10 (.calm 11 (.calm 12 (.calm 13 (.calm 14 (.calm 15 (.calm 16 (.calm 17 (.calm 18 (.done)))))))))))))))))))) (sub_pick [0, 3] (by decide) rfl) (by kernel_rfl) (by kernel_rfl) (by intro c a d v w h; cases d <;> exact h) ?_
            repeat (first
              | ((first | refine TW_plain rfl rfl ?_ | refine TW_gmet rfl rfl rfl rfl ?_); first | refine TN_val (qp rfl) rfl rfl ?_ | refine TN_val (rr_nilc rfl) rfl rfl ?_ | refine TN_val (rr_load1 TyC.ty rfl (at_blk (i := 0) rfl rfl)) rfl rfl ?_ | refine TN_val (rr_strlen Und.eq rfl) rfl rfl ?_ | refine TN_val (rr_loadN (cs := clsL c) TyC.ty rfl rfl (fun j v hj => at_blk (i := 1) rfl (num_cls (r := .byte c) hj))) rfl rfl ?_ | refine TN_val (rr_strlen Und.eq rfl) rfl rfl ?_ | refine TN_val (qfld FldC.fld rfl rfl) rfl rfl ?_ | refine TN_val (rr_nilc rfl) rfl rfl ?_ | refine TN_val (rr_lss rfl rfl (qT (by omega))) rfl rfl ?_ | refine TN_val (rr_lss rfl rfl (qF (by omega))) rfl rfl ?_ | refine TN_val (rr_eql rfl rfl (qT (by omega))) rfl rfl ?_ | refine TN_val (rr_eql rfl rfl (qF (by omega))) rfl rfl ?_ | refine TN_val (rr_add64 rfl rfl (by omega) (by omega) rfl) rfl rfl ?_ | refine TN_val (rr_stridx Und.eq rfl rfl (by omega) hb) rfl rfl ?_)
              | refine TW_skip rfl rfl rfl rfl rfl rfl rfl ?_ | refine TW_done ?_)
            refine TW_gcall rfl (he2 EntersC.en rfl rfl rfl) (fun w hm => hh _) rfl rfl rfl rfl rfl ?_
            repeat (first
              | ((first | refine TW_plain rfl rfl ?_ | refine TW_gmet rfl rfl rfl rfl ?_); first | refine TN_val (qp rfl) rfl rfl ?_ | refine TN_val (rr_strlen Und.eq rfl) rfl rfl ?_ | refine TN_val (qfld FldC.fld rfl rfl) rfl rfl ?_ | refine TN_val (rr_nilc rfl) rfl rfl ?_ | refine TN_val (rr_lss rfl rfl (qT (by omega))) rfl rfl ?_ | refine TN_val (rr_lss rfl rfl (qF (by omega))) rfl rfl ?_ | refine TN_val (rr_eql rfl rfl (qT (by omega))) rfl rfl ?_ | refine TN_val (rr_eql rfl rfl (qF (by omega))) rfl rfl ?_ | refine TN_val (rr_add64 rfl rfl (by omega) (by omega) rfl) rfl rfl ?_)
              | refine TW_skip rfl rfl rfl rfl rfl rfl rfl ?_ | refine TW_done ?_)
            cases D with
            | true =>
              repeat (first
                | refine qv rfl (qp rfl) rfl rfl ?_ | refine TL_nil ?_ | refine T_seq ?_ | refine T_region ?_ | refine qcT rfl ?_ | refine qcF rfl ?_ | refine T_skip ?_
                | refine T_exit ?_ | refine T_ret ?_ | refine T_block ?_ | refine E_then ?_ | refine E_thenX ?_ | refine E_thenR ?_ | refine E_blockN ?_
                | refine E_blockR ?_ | refine E_blockX ?_ | refine E_blockO rfl ?_ | refine qs rfl rfl rfl rfl rfl rfl ?_
                | ((try refine qg rfl rfl rfl ?_); first | refine qv rfl (qp rfl) rfl rfl ?_ | refine qv rfl (rr_add64 (r := ((f + 1 : Nat) : Int)) rfl rfl (by omega) (by omega) (by omega)) rfl rfl ?_ | refine qv rfl (rr_strlen Und.eq rfl) rfl rfl ?_ | refine qv rfl (qfld FldC.fld rfl rfl) rfl rfl ?_ | refine qv rfl (rr_nilc rfl) rfl rfl ?_ | refine qv rfl (rr_lss rfl rfl (qT (by omega))) rfl rfl ?_ | refine qv rfl (rr_lss rfl rfl (qF (by omega))) rfl rfl ?_ | refine qv rfl (rr_eql rfl rfl (qT (by omega))) rfl rfl ?_ | refine qv rfl (rr_eql rfl rfl (qF (by omega))) rfl rfl ?_ | refine qv rfl (rr_add64 rfl rfl (by omega) (by omega) rfl) rfl rfl ?_))
              refine TL_call (he2 EntersC.en rfl rfl rfl) (fun w hm => hrg _) rfl rfl rfl ?_
              intro _ _
              conv => arg 8; simp only [zA, zB, zC, zD, zE, zF, zG, zH, zI, rowS, ret, id_eq]
              refine TL_storeB (i := 7) (cs' := (clsL (rangeF ((f + 1 : Nat) : Int) ((f + 1 : Nat) : Int))).toArray) rfl rfl rfl rfl rfl rfl ?_
              conv => arg 8; simp only [zA, zB, zC, zD, zE, zF, zG, zH, zI, rowS, ret, id_eq]
              repeat (first
                | refine qv rfl (qp rfl) rfl rfl ?_ | refine TL_nil ?_ | refine T_seq ?_ | refine T_region ?_ | refine qcT rfl ?_ | refine qcF rfl ?_ | refine T_skip ?_
                | refine T_exit ?_ | refine T_ret ?_ | refine T_block ?_ | refine E_then ?_ | refine E_thenX ?_ | refine E_thenR ?_ | refine E_blockN ?_
                | refine E_blockR ?_ | refine E_blockX ?_ | refine E_blockO rfl ?_ | refine qs rfl rfl rfl rfl rfl rfl ?_
                | ((try refine qg rfl rfl rfl ?_); first | refine qv rfl (qp rfl) rfl rfl ?_ | refine qv rfl (rr_strlen Und.eq rfl) rfl rfl ?_ | refine qv rfl (qfld FldC.fld rfl rfl) rfl rfl ?_ | refine qv rfl (rr_nilc rfl) rfl rfl ?_ | refine qv rfl (rr_lss rfl rfl (qT (by omega))) rfl rfl ?_ | refine qv rfl (rr_lss rfl rfl (qF (by omega))) rfl rfl ?_ | refine qv rfl (rr_eql rfl rfl (qT (by omega))) rfl rfl ?_ | refine qv rfl (rr_eql rfl rfl (qF (by omega))) rfl rfl ?_ | refine qv rfl (rr_add64 rfl rfl (by omega) (by omega) rfl) rfl rfl ?_))
              refine E_pick [0, 1, 2, 4, 5, 7] (by decide) rfl ?_
              exact E_mid (rangeF ((f + 1 : Nat) : Int) ((f + 1 : Nat) : Int), m, n) ⟨endC_range fun j => by rw [hend]; simp, hmk⟩ (by repeat' (first | exact True.intro | refine And.intro rfl ?_)) rfl
            | false =>
              repeat (first
                | refine qv rfl (qp rfl) rfl rfl ?_ | refine TL_nil ?_ | refine T_seq ?_ | refine T_region ?_ | refine qcT rfl ?_ | refine qcF rfl ?_ | refine T_skip ?_
                | refine T_exit ?_ | refine T_ret ?_ | refine T_block ?_ | refine E_then ?_ | refine E_thenX ?_ | refine E_thenR ?_ | refine E_blockN ?_
                | refine E_blockR ?_ | refine E_blockX ?_ | refine E_blockO rfl ?_ | refine qs rfl rfl rfl rfl rfl rfl ?_
                | ((try refine qg rfl rfl rfl ?_); first | refine qv rfl (qp rfl) rfl rfl ?_ | refine qv rfl (rr_strlen Und.eq rfl) rfl rfl ?_ | refine qv rfl (qfld FldC.fld rfl rfl) rfl rfl ?_ | refine qv rfl (rr_nilc rfl) rfl rfl ?_ | refine qv rfl (rr_lss rfl rfl (qT (by omega))) rfl rfl ?_ | refine qv rfl (rr_lss rfl rfl (qF (by omega))) rfl rfl ?_ | refine qv rfl (rr_eql rfl rfl (qT (by omega))) rfl rfl ?_ | refine qv rfl (rr_eql rfl rfl (qF (by omega))) rfl rfl ?_ | refine qv rfl (rr_add64 rfl rfl (by omega) (by omega) rfl) rfl rfl ?_))
              refine E_pick [0, 1, 2, 4, 5, 7] (by decide) rfl ?_
              exact E_mid (C4.zero, m, n) ⟨endC_zero fun j h => by have := (hend j).1 h; simp at this, hmk⟩ (by repeat' (first | exact True.intro | refine And.intro rfl ?_)) rfl
          · have hend : ∀ j, ¬ EndP (.byte c) s f j := fun j h => by rw [end_byte] at h; exact c1 h.1
            repeat (first
              | refine qv rfl (qp rfl) rfl rfl ?_ | refine TL_nil ?_ | refine T_seq ?_ | refine T_region ?_ | refine qcT rfl ?_ | refine qcF rfl ?_ | refine T_skip ?_
              | refine T_exit ?_ | refine T_ret ?_ | refine T_block ?_ | refine E_then ?_ | refine E_thenX ?_ | refine E_thenR ?_ | refine E_blockN ?_
              | refine E_blockR ?_ | refine E_blockX ?_ | refine E_blockO rfl ?_ | refine qs rfl rfl rfl rfl rfl rfl ?_
              | ((try refine qg rfl rfl rfl ?_); first | refine qv rfl (qp rfl) rfl rfl ?_ | refine qv rfl (rr_strlen Und.eq rfl) rfl rfl ?_ | refine qv rfl (qfld FldC.fld rfl rfl) rfl rfl ?_ | refine qv rfl (rr_nilc rfl) rfl rfl ?_ | refine qv rfl (rr_lss rfl rfl (qT (by omega))) rfl rfl ?_ | refine qv rfl (rr_lss rfl rfl (qF (by omega))) rfl rfl ?_ | refine qv rfl (rr_eql rfl rfl (qT (by omega))) rfl rfl ?_ | refine qv rfl (rr_eql rfl rfl (qF (by omega))) rfl rfl ?_ | refine qv rfl (rr_add64 rfl rfl (by omega) (by omega) rfl) rfl rfl ?_))
            (repeat refine T_seq ?_)
            refine T_ord ([blkO gs #[str s, .map (some gm)] 74, blkO g4 (numC (.byte c) k vk v).toArray 78]) (.calm 0 (.calm 1 (.calm 2 (.calm 3 (.calm 4 (.calm 5 (.calm 6 (.calm 7 (.calm 8 (.calm 9 (.calm 10 (.calm 11 (.calm 12 (.calm 13 (.calm 14 (.calm 15 (.calm 16 (.calm 17 (.calm 18 (.done)))))))))))))))))))) (sub_pick [0, 3] (by decide) rfl) (by kernel_rfl) (by kernel_rfl) (by intro c a d v w h; cases d <;> exact h) ?_
            repeat (first
              | ((first | refine TW_plain rfl rfl ?_ | refine TW_gmet rfl rfl rfl rfl ?_); first | refine TN_val (qp rfl) rfl rfl ?_ | refine TN_val (rr_nilc rfl) rfl rfl ?_ | refine TN_val (rr_load1 TyC.ty rfl (at_blk (i := 0) rfl rfl)) rfl rfl ?_ | refine TN_val (rr_strlen Und.eq rfl) rfl rfl ?_ | refine TN_val (rr_strlen Und.eq rfl) rfl rfl ?_ | refine TN_val (qfld FldC.fld rfl rfl) rfl rfl ?_ | refine TN_val (rr_nilc rfl) rfl rfl ?_ | refine TN_val (rr_lss rfl rfl (qT (by omega))) rfl rfl ?_ | refine TN_val (rr_lss rfl rfl (qF (by omega))) rfl rfl ?_ | refine TN_val (rr_eql rfl rfl (qT (by omega))) rfl rfl ?_ | refine TN_val (rr_eql rfl rfl (qF (by omega))) rfl rfl ?_ | refine TN_val (rr_add64 rfl rfl (by omega) (by omega) rfl) rfl rfl ?_)
              | refine TW_skip rfl rfl rfl rfl rfl rfl rfl ?_ | refine TW_done ?_)
            repeat (first
              | refine qv rfl (qp rfl) rfl rfl ?_ | refine TL_nil ?_ | refine T_seq ?_ | refine T_region ?_ | refine qcT rfl ?_ | refine qcF rfl ?_ | refine T_skip ?_
              | refine T_exit ?_ | refine T_ret ?_ | refine T_block ?_ | refine E_then ?_ | refine E_thenX ?_ | refine E_thenR ?_ | refine E_blockN ?_
              | refine E_blockR ?_ | refine E_blockX ?_ | refine E_blockO rfl ?_ | refine qs rfl rfl rfl rfl rfl rfl ?_
              | ((try refine qg rfl rfl rfl ?_); first | refine qv rfl (qp rfl) rfl rfl ?_ | refine qv rfl (rr_strlen Und.eq rfl) rfl rfl ?_ | refine qv rfl (qfld FldC.fld rfl rfl) rfl rfl ?_ | refine qv rfl (rr_nilc rfl) rfl rfl ?_ | refine qv rfl (rr_lss rfl rfl (qT (by omega))) rfl rfl ?_ | refine qv rfl (rr_lss rfl rfl (qF (by omega))) rfl rfl ?_ | refine qv rfl (rr_eql rfl rfl (qT (by omega))) rfl rfl ?_ | refine qv rfl (rr_eql rfl rfl (qF (by omega))) rfl rfl ?_ | refine qv rfl (rr_add64 rfl rfl (by omega) (by omega) rfl) rfl rfl ?_))
            refine E_pick [0, 1, 2, 4, 5, 7] (by decide) rfl ?_
            exact E_mid (C4.zero, m, n) ⟨endC_zero hend, hmk⟩ (by repeat' (first | exact True.intro | refine And.intro rfl ?_)) rfl
        | alt a b =>
          conv => arg 6; simp only [Re.kind]
          obtain ⟨bk, off, cap, rfl, hF, hkid⟩ := nkid_at hks (by show 0 < 2; omega)
          obtain ⟨vk0, v0, r0, o0, p0, n0⟩ := hkid 0 (by show 0 < 2; omega)
          obtain ⟨vk1, v1, r1, o1, p1, n1⟩ := hkid 1 (by show 1 < 2; omega)
          replace r0 : Rd w1 bk (off + 0 * 8) (numC a (k + 1) vk0 v0) := r0
          replace r1 : Rd w1 bk (off + 1 * 8) (numC b (k + 1 + a.size) vk1 v1) := r1
          have k0 := con_kid hcon (j := 0) (by show 0 < 2; omega)
          have k1 := con_kid hcon (j := 1) (by show 1 < 2; omega)
          have E0 : EndsOk w0 s N gs gm F w1 a (numC a (k + 1) vk0 v0) := IH a (by have : a.size < (Re.alt a b).size := k0.2.2; omega) (k + 1) _ n0 k0.1 (by have : k + 1 + a.size ≤ k + (Re.alt a b).size := k0.2.1; omega)
          have E1 : EndsOk w0 s N gs gm F w1 b (numC b (k + 1 + a.size) vk1 v1) := IH b (by have : b.size < (Re.alt a b).size := k1.2.2; omega) (k + 1 + a.size) _ n1 k1.1 (by have : k + 1 + a.size + b.size ≤ k + (Re.alt a b).size := k1.2.1; omega)
          clear hkid IH
          repeat (first
            | refine qv rfl (qp rfl) rfl rfl ?_ | refine TL_nil ?_ | refine T_seq ?_ | refine T_region ?_ | refine qcT rfl ?_ | refine qcF rfl ?_ | refine T_skip ?_
            | refine T_exit ?_ | refine T_ret ?_ | refine T_block ?_ | refine E_then ?_ | refine E_thenX ?_ | refine E_thenR ?_ | refine E_blockN ?_
            | refine E_blockR ?_ | refine E_blockX ?_ | refine E_blockO rfl ?_ | refine qs rfl rfl rfl rfl rfl rfl ?_
            | ((try refine qg rfl rfl rfl ?_); first | refine qv rfl (qp rfl) rfl rfl ?_ | refine qv rfl (rr_strlen Und.eq rfl) rfl rfl ?_ | refine qv rfl (qfld FldC.fld rfl rfl) rfl rfl ?_ | refine qv rfl (rr_nilc rfl) rfl rfl ?_ | refine qv rfl (rr_lss rfl rfl (qT (by omega))) rfl rfl ?_ | refine qv rfl (rr_lss rfl rfl (qF (by omega))) rfl rfl ?_ | refine qv rfl (rr_eql rfl rfl (qT (by omega))) rfl rfl ?_ | refine qv rfl (rr_eql rfl rfl (qF (by omega))) rfl rfl ?_ | refine qv rfl (rr_add64 rfl rfl (by omega) (by omega) rfl) rfl rfl ?_))
          (repeat refine T_seq ?_)
          refine T_ord ([frozO F w1, blkO g4 (numC (.alt a b) k vk (.slice (some ⟨bk, off, none⟩) 2 cap)).toArray 78]) (.calm 0 (.calm 1 (.calm 2 (.calm 3 (.calm 4 (.calm 5 (.calm 7 (.calm 8 (.calm 9 (.calm 10 (.calm 11 (.calm 12 (.one 6 (.one 13 (.calm 14 (.one 15 (.done))))))))))))))))) (sub_pick [2, 3] (by decide) rfl) (by kernel_rfl) (by kernel_rfl) (by intro c a d v w h; cases d <;> exact h) ?_
          repeat (first
            | ((first | refine TW_plain rfl rfl ?_ | refine TW_gmet rfl rfl rfl rfl ?_); first | refine TN_val (qp rfl) rfl rfl ?_ | refine TN_val (rr_load1 (v := .slice (some ⟨bk, off, none⟩) 2 cap) TyC.ty rfl (at_blk (i := 1) rfl rfl)) rfl rfl ?_ | refine TN_val (rr_idxc (j := 0) Und.eq TyC.ty rfl rfl (by decide)) rfl rfl ?_ | refine TN_val (rr_idxc (j := 1) Und.eq TyC.ty rfl rfl (by decide)) rfl rfl ?_ | refine TN_val (rr_loadN (cs := numC a (k + 1) vk0 v0) TyC.ty rfl rfl (at_froz (i := 0) rfl hF r0)) rfl rfl ?_ | refine TN_val (rr_loadN (cs := numC b (k + 1 + a.size) vk1 v1) TyC.ty rfl rfl (at_froz (i := 0) rfl hF r1)) rfl rfl ?_ | refine TN_val (rr_strlen Und.eq rfl) rfl rfl ?_ | refine TN_val (qfld FldC.fld rfl rfl) rfl rfl ?_ | refine TN_val (rr_nilc rfl) rfl rfl ?_ | refine TN_val (rr_lss rfl rfl (qT (by omega))) rfl rfl ?_ | refine TN_val (rr_lss rfl rfl (qF (by omega))) rfl rfl ?_ | refine TN_val (rr_eql rfl rfl (qT (by omega))) rfl rfl ?_ | refine TN_val (rr_eql rfl rfl (qF (by omega))) rfl rfl ?_ | refine TN_val (rr_add64 rfl rfl (by omega) (by omega) rfl) rfl rfl ?_)
            | refine TW_skip rfl rfl rfl rfl rfl rfl rfl ?_ | refine TW_done ?_)
          refine TW_one rfl (TL_callB [0, 1, 2] [3, 4, 5, 6, 7] (by decide) rfl rfl (he3 EntersC.en rfl rfl rfl rfl) (fun w hm hb => E0 f m n w _ hf hmk (ho.on hm (by intro o ho; simp [spO, mO] at ho ⊢; rcases ho with h | h | h <;> simp [h])) hb) rfl rfl rfl ?_)
          rintro ⟨x, m', n'⟩ ⟨hx, hmk'⟩
          conv => arg 8; simp only [zA, zB, zC, zD, zE, zF, zG, zH, zI, rowS, ret, id_eq, endSp]
          refine TW_on (sub_pick [7, 0] (by decide) rfl) ?_
          refine TW_one rfl (TL_callB [5, 6, 7] [0, 1, 2, 3, 4] (by decide) rfl rfl (he3 EntersC.en rfl rfl rfl rfl) (fun w hm hb => E1 f m' n' w _ hf hmk' (ho.on hm (by intro o ho; simp [spO, mO] at ho ⊢; rcases ho with h | h | h <;> simp [h])) hb) rfl rfl rfl ?_)
          rintro ⟨y, m'', n''⟩ ⟨hy, hmk''⟩
          conv => arg 8; simp only [zA, zB, zC, zD, zE, zF, zG, zH, zI, rowS, ret, id_eq, endSp]
          refine TW_on (sub_pick [7, 0] (by decide) rfl) ?_
          repeat (first
            | ((first | refine TW_plain rfl rfl ?_ | refine TW_gmet rfl rfl rfl rfl ?_); first | refine TN_val (qp rfl) rfl rfl ?_ | refine TN_val (rr_strlen Und.eq rfl) rfl rfl ?_ | refine TN_val (qfld FldC.fld rfl rfl) rfl rfl ?_ | refine TN_val (rr_nilc rfl) rfl rfl ?_ | refine TN_val (rr_lss rfl rfl (qT (by omega))) rfl rfl ?_ | refine TN_val (rr_lss rfl rfl (qF (by omega))) rfl rfl ?_ | refine TN_val (rr_eql rfl rfl (qT (by omega))) rfl rfl ?_ | refine TN_val (rr_eql rfl rfl (qF (by omega))) rfl rfl ?_ | refine TN_val (rr_add64 rfl rfl (by omega) (by omega) rfl) rfl rfl ?_)
            | refine TW_skip rfl rfl rfl rfl rfl rfl rfl ?_ | refine TW_done ?_)
          refine TW_call rfl (he2 EntersC.en rfl rfl rfl) (fun w hm => joinE x y _) rfl rfl rfl ?_
          refine TW_one rfl (TL_storeB (i := 4) (cs' := (clsL (x.join y)).toArray) rfl rfl rfl rfl rfl rfl (TW_on (sub_pick [7, 0] (by decide) rfl) ?_))
          repeat (first
            | ((first | refine TW_plain rfl rfl ?_ | refine TW_gmet rfl rfl rfl rfl ?_); first | refine TN_val (qp rfl) rfl rfl ?_ | refine TN_val (rr_strlen Und.eq rfl) rfl rfl ?_ | refine TN_val (qfld FldC.fld rfl rfl) rfl rfl ?_ | refine TN_val (rr_nilc rfl) rfl rfl ?_ | refine TN_val (rr_lss rfl rfl (qT (by omega))) rfl rfl ?_ | refine TN_val (rr_lss rfl rfl (qF (by omega))) rfl rfl ?_ | refine TN_val (rr_eql rfl rfl (qT (by omega))) rfl rfl ?_ | refine TN_val (rr_eql rfl rfl (qF (by omega))) rfl rfl ?_ | refine TN_val (rr_add64 rfl rfl (by omega) (by omega) rfl) rfl rfl ?_)
            | refine TW_skip rfl rfl rfl rfl rfl rfl rfl ?_ | refine TW_done ?_)
          repeat (first
            | refine qv rfl (qp rfl) rfl rfl ?_ | refine TL_nil ?_ | refine T_seq ?_ | refine T_region ?_ | refine qcT rfl ?_ | refine qcF rfl ?_ | refine T_skip ?_
            | refine T_exit ?_ | refine T_ret ?_ | refine T_block ?_ | refine E_then ?_ | refine E_thenX ?_ | refine E_thenR ?_ | refine E_blockN ?_
            | refine E_blockR ?_ | refine E_blockX ?_ | refine E_blockO rfl ?_ | refine qs rfl rfl rfl rfl rfl rfl ?_
            | ((try refine qg rfl rfl rfl ?_); first | refine qv rfl (qp rfl) rfl rfl ?_ | refine qv rfl (rr_strlen Und.eq rfl) rfl rfl ?_ | refine qv rfl (qfld FldC.fld rfl rfl) rfl rfl ?_ | refine qv rfl (rr_nilc rfl) rfl rfl ?_ | refine qv rfl (rr_lss rfl rfl (qT (by omega))) rfl rfl ?_ | refine qv rfl (rr_lss rfl rfl (qF (by omega))) rfl rfl ?_ | refine qv rfl (rr_eql rfl rfl (qT (by omega))) rfl rfl ?_ | refine qv rfl (rr_eql rfl rfl (qF (by omega))) rfl rfl ?_ | refine qv rfl (rr_add64 rfl rfl (by omega) (by omega) rfl) rfl rfl ?_))
          refine E_pick [5, 6, 7, 1, 2, 4] (by decide) rfl ?_
          exact E_mid (x.join y, m'', n'') ⟨endC_alt hx hy, hmk''⟩ (by repeat' (first | exact True.intro | refine And.intro rfl ?_)) rfl
        | cat a b =>
          conv => arg 6; simp only [Re.kind]
          obtain ⟨bk, off, cap, rfl, hF, hkid⟩ := nkid_at hks (by show 0 < 2; omega)
          obtain ⟨vk0, v0, r0, o0, p0, n0⟩ := hkid 0 (by show 0 < 2; omega)
          obtain ⟨vk1, v1, r1, o1, p1, n1⟩ := hkid 1 (by show 1 < 2; omega)
          replace r0 : Rd w1 bk (off + 0 * 8) (numC a (k + 1) vk0 v0) := r0
          replace r1 : Rd w1 bk (off + 1 * 8) (numC b (k + 1 + a.size) vk1 v1) := r1
          have k0 := con_kid hcon (j := 0) (by show 0 < 2; omega)
          have k1 := con_kid hcon (j := 1) (by show 1 < 2; omega)
          have E0 : EndsOk w0 s N gs gm F w1 a (numC a (k + 1) vk0 v0) := IH a (by have : a.size < (Re.cat a b).size := k0.2.2; omega) (k + 1) _ n0 k0.1 (by have : k + 1 + a.size ≤ k + (Re.cat a b).size := k0.2.1; omega)
          have E1 : EndsOk w0 s N gs gm F w1 b (numC b (k + 1 + a.size) vk1 v1) := IH b (by have : b.size < (Re.cat a b).size := k1.2.2; omega) (k + 1 + a.size) _ n1 k1.1 (by have : k + 1 + a.size + b.size ≤ k + (Re.cat a b).size := k1.2.1; omega)
          clear hkid IH
          repeat (first
            | refine qv rfl (qp rfl) rfl rfl ?_ | refine TL_nil ?_ | refine T_seq ?_ | refine T_region ?_ | refine qcT rfl ?_ | refine qcF rfl ?_ | refine T_skip ?_
            | refine T_exit ?_ | refine T_ret ?_ | refine T_block ?_ | refine E_then ?_ | refine E_thenX ?_ | refine E_thenR ?_ | refine E_blockN ?_
            | refine E_blockR ?_ | refine E_blockX ?_ | refine E_blockO rfl ?_ | refine qs rfl rfl rfl rfl rfl rfl ?_
            | ((try refine qg rfl rfl rfl ?_); first | refine qv rfl (qp rfl) rfl rfl ?_ | refine qv rfl (rr_strlen Und.eq rfl) rfl rfl ?_ | refine qv rfl (qfld FldC.fld rfl rfl) rfl rfl ?_ | refine qv rfl (rr_nilc rfl) rfl rfl ?_ | refine qv rfl (rr_lss rfl rfl (qT (by omega))) rfl rfl ?_ | refine qv rfl (rr_lss rfl rfl (qF (by omega))) rfl rfl ?_ | refine qv rfl (rr_eql rfl rfl (qT (by omega))) rfl rfl ?_ | refine qv rfl (rr_eql rfl rfl (qF (by omega))) rfl rfl ?_ | refine qv rfl (rr_add64 rfl rfl (by omega) (by omega) rfl) rfl rfl ?_))
          (repeat refine T_seq ?_)
          refine T_ord ([frozO F w1, blkO g4 (numC (.cat a b) k vk (.slice (some ⟨bk, off, none⟩) 2 cap)).toArray 78]) (.calm 0 (.calm 1 (.calm 2 (.calm 3 (.calm 4 (.calm 5 (.calm 6 (.calm 8 (.calm 9 (.calm 10 (.calm 11 (.one 7 (.one 12 (.one 13 (.done))))))))))))))) (sub_pick [2, 3] (by decide) rfl) (by kernel_rfl) (by kernel_rfl) (by intro c a d v w h; cases d <;> exact h) ?_
          repeat (first
            | ((first | refine TW_plain rfl rfl ?_ | refine TW_gmet rfl rfl rfl rfl ?_); first | refine TN_val (qp rfl) rfl rfl ?_ | refine TN_val (rr_load1 (v := .slice (some ⟨bk, off, none⟩) 2 cap) TyC.ty rfl (at_blk (i := 1) rfl rfl)) rfl rfl ?_ | refine TN_val (rr_idxc (j := 0) Und.eq TyC.ty rfl rfl (by decide)) rfl rfl ?_ | refine TN_val (rr_idxc (j := 1) Und.eq TyC.ty rfl rfl (by decide)) rfl rfl ?_ | refine TN_val (rr_loadN (cs := numC a (k + 1) vk0 v0) TyC.ty rfl rfl (at_froz (i := 0) rfl hF r0)) rfl rfl ?_ | refine TN_val (rr_loadN (cs := numC b (k + 1 + a.size) vk1 v1) TyC.ty rfl rfl (at_froz (i := 0) rfl hF r1)) rfl rfl ?_ | refine TN_val (rr_strlen Und.eq rfl) rfl rfl ?_ | refine TN_val (qfld FldC.fld rfl rfl) rfl rfl ?_ | refine TN_val (rr_nilc rfl) rfl rfl ?_ | refine TN_val (rr_lss rfl rfl (qT (by omega))) rfl rfl ?_ | refine TN_val (rr_lss rfl rfl (qF (by omega))) rfl rfl ?_ | refine TN_val (rr_eql rfl rfl (qT (by omega))) rfl rfl ?_ | refine TN_val (rr_eql rfl rfl (qF (by omega))) rfl rfl ?_ | refine TN_val (rr_add64 rfl rfl (by omega) (by omega) rfl) rfl rfl ?_)
            | refine TW_skip rfl rfl rfl rfl rfl rfl rfl ?_ | refine TW_done ?_)
          refine TW_one rfl (TL_callB [0, 1, 2] [3, 4, 5, 6, 7] (by decide) rfl rfl (he3 EntersC.en rfl rfl rfl rfl) (fun w hm hb => E0 f m n w _ hf hmk (ho.on hm (by intro o ho; simp [spO, mO] at ho ⊢; rcases ho with h | h | h <;> simp [h])) hb) rfl rfl rfl ?_)
          rintro ⟨x, m', n'⟩ ⟨hx, hmk'⟩
          conv => arg 8; simp only [zA, zB, zC, zD, zE, zF, zG, zH, zI, rowS, ret, id_eq, endSp]
          refine TW_on (sub_pick [7, 0] (by decide) rfl) ?_
          refine TW_one rfl (TL_callB [5, 6, 7] [0, 1, 2, 3, 4] (by decide) rfl rfl (he3 EntersC.en rfl rfl rfl rfl) (fun w hm hb => each4_calls w0 hT s hs N gs gm F w1 b _ _ _ E1 o1 p1 x (endC_le hx) m' n' w _ hmk' (ho.on hm (by intro o ho; simp [spO, mO] at ho ⊢; rcases ho with h | h | h <;> simp [h])) hb) rfl rfl rfl ?_)
          rintro ⟨y, m'', n''⟩ ⟨hy, hmk''⟩
          conv => arg 8; simp only [zA, zB, zC, zD, zE, zF, zG, zH, zI, rowS, ret, id_eq, eachSp]
          refine TW_on (sub_pick [7, 0] (by decide) rfl) ?_
          refine TW_one rfl (TL_storeB (i := 4) (cs' := (clsL y).toArray) rfl rfl rfl rfl rfl rfl (TW_on (sub_pick [7, 0] (by decide) rfl) ?_))
          repeat (first
            | ((first | refine TW_plain rfl rfl ?_ | refine TW_gmet rfl rfl rfl rfl ?_); first | refine TN_val (qp rfl) rfl rfl ?_ | refine TN_val (rr_strlen Und.eq rfl) rfl rfl ?_ | refine TN_val (qfld FldC.fld rfl rfl) rfl rfl ?_ | refine TN_val (rr_nilc rfl) rfl rfl ?_ | refine TN_val (rr_lss rfl rfl (qT (by omega))) rfl rfl ?_ | refine TN_val (rr_lss rfl rfl (qF (by omega))) rfl rfl ?_ | refine TN_val (rr_eql rfl rfl (qT (by omega))) rfl rfl ?_ | refine TN_val (rr_eql rfl rfl (qF (by omega))) rfl rfl ?_ | refine TN_val (rr_add64 rfl rfl (by omega) (by omega) rfl) rfl rfl ?_)
            | refine TW_skip rfl rfl rfl rfl rfl rfl rfl ?_ | refine TW_done ?_)
          repeat (first
            | refine qv rfl (qp rfl) rfl rfl ?_ | refine TL_nil ?_ | refine T_seq ?_ | refine T_region ?_ | refine qcT rfl ?_ | refine qcF rfl ?_ | refine T_skip ?_
            | refine T_exit ?_ | refine T_ret ?_ | refine T_block ?_ | refine E_then ?_ | refine E_thenX ?_ | refine E_thenR ?_ | refine E_blockN ?_
            | refine E_blockR ?_ | refine E_blockX ?_ | refine E_blockO rfl ?_ | refine qs rfl rfl rfl rfl rfl rfl ?_
            | ((try refine qg rfl rfl rfl ?_); first | refine qv rfl (qp rfl) rfl rfl ?_ | refine qv rfl (rr_strlen Und.eq rfl) rfl rfl ?_ | refine qv rfl (qfld FldC.fld rfl rfl) rfl rfl ?_ | refine qv rfl (rr_nilc rfl) rfl rfl ?_ | refine qv rfl (rr_lss rfl rfl (qT (by omega))) rfl rfl ?_ | refine qv rfl (rr_lss rfl rfl (qF (by omega))) rfl rfl ?_ | refine qv rfl (rr_eql rfl rfl (qT (by omega))) rfl rfl ?_ | refine qv rfl (rr_eql rfl rfl (qF (by omega))) rfl rfl ?_ | refine qv rfl (rr_add64 rfl rfl (by omega) (by omega) rfl) rfl rfl ?_))
          refine E_pick [5, 6, 7, 1, 2, 4] (by decide) rfl ?_
          exact E_mid (y, m'', n'') ⟨endC_cat hs hx hy, hmk''⟩ (by repeat' (first | exact True.intro | refine And.intro rfl ?_)) rfl
        | star a =>
          conv => arg 6; simp only [Re.kind]
          obtain ⟨bk, off, cap, rfl, hF, hkid⟩ := nkid_at hks (by show 0 < 1; omega)
          obtain ⟨vk0, v0, r0, o0, p0, n0⟩ := hkid 0 (by show 0 < 1; omega)
          replace r0 : Rd w1 bk (off + 0 * 8) (numC a (k + 1) vk0 v0) := r0
          have k0 := con_kid hcon (j := 0) (by show 0 < 1; omega)
          have E0 : EndsOk w0 s N gs gm F w1 a (numC a (k + 1) vk0 v0) := IH a (by have : a.size < (Re.star a).size := k0.2.2; omega) (k + 1) _ n0 k0.1 (by have : k + 1 + a.size ≤ k + (Re.star a).size := k0.2.1; omega)
          clear hkid IH
          have hrg := fun w => rangeE f f hkey.2 hkey.2 w
          have hst := sti0 hs (a := a) hf
          have hnot := notE
          have hmeet := meetE
          have hjoin := joinE
          have hbz := build_cz
          repeat (first
            | refine qv rfl (qp rfl) rfl rfl ?_ | refine TL_nil ?_ | refine T_seq ?_ | refine T_region ?_ | refine qcT rfl ?_ | refine qcF rfl ?_ | refine T_skip ?_
            | refine T_exit ?_ | refine T_ret ?_ | refine T_block ?_ | refine E_then ?_ | refine E_thenX ?_ | refine E_thenR ?_ | refine E_blockN ?_
            | refine E_blockR ?_ | refine E_blockX ?_ | refine E_blockO rfl ?_ | refine qs rfl rfl rfl rfl rfl rfl ?_
            | ((try refine qg rfl rfl rfl ?_); first | refine qv rfl (qp rfl) rfl rfl ?_ | refine qv rfl (rr_strlen Und.eq rfl) rfl rfl ?_ | refine qv rfl (qfld FldC.fld rfl rfl) rfl rfl ?_ | refine qv rfl (rr_nilc rfl) rfl rfl ?_ | refine qv rfl (rr_lss rfl rfl (qT (by omega))) rfl rfl ?_ | refine qv rfl (rr_lss rfl rfl (qF (by omega))) rfl rfl ?_ | refine qv rfl (rr_eql rfl rfl (qT (by omega))) rfl rfl ?_ | refine qv rfl (rr_eql rfl rfl (qF (by omega))) rfl rfl ?_ | refine qv rfl (rr_add64 rfl rfl (by omega) (by omega) rfl) rfl rfl ?_))
          refine TL_call (he2 EntersC.en rfl rfl rfl) (fun w hm => hrg _) rfl rfl rfl ?_
          intro _ _
          conv => arg 8; simp only [zA, zB, zC, zD, zE, zF, zG, zH, zI, rowS, ret, id_eq]
          refine TL_storeB (i := 7) (cs' := (clsL (rangeF f f)).toArray) rfl rfl rfl rfl rfl rfl ?_
          conv => arg 8; simp only [zA, zB, zC, zD, zE, zF, zG, zH, zI, rowS, ret, id_eq]
          repeat (first
            | refine qv rfl (qp rfl) rfl rfl ?_ | refine TL_nil ?_ | refine T_seq ?_ | refine T_region ?_ | refine qcT rfl ?_ | refine qcF rfl ?_ | refine T_skip ?_
            | refine T_exit ?_ | refine T_ret ?_ | refine T_block ?_ | refine E_then ?_ | refine E_thenX ?_ | refine E_thenR ?_ | refine E_blockN ?_
            | refine E_blockR ?_ | refine E_blockX ?_ | refine E_blockO rfl ?_ | refine qs rfl rfl rfl rfl rfl rfl ?_
            | ((try refine qg rfl rfl rfl ?_); first | refine qv rfl (qp rfl) rfl rfl ?_ | refine qv rfl (rr_loadB (i := 7) TyC.ty rfl rfl rfl) rfl rfl ?_ | refine qv rfl (rr_strlen Und.eq rfl) rfl rfl ?_ | refine qv rfl (qfld FldC.fld rfl rfl) rfl rfl ?_ | refine qv rfl (rr_nilc rfl) rfl rfl ?_ | refine qv rfl (rr_lss rfl rfl (qT (by omega))) rfl rfl ?_ | refine qv rfl (rr_lss rfl rfl (qF (by omega))) rfl rfl ?_ | refine qv rfl (rr_eql rfl rfl (qT (by omega))) rfl rfl ?_ | refine qv rfl (rr_eql rfl rfl (qF (by omega))) rfl rfl ?_ | refine qv rfl (rr_add64 rfl rfl (by omega) (by omega) rfl) rfl rfl ?_))
          refine TL_new rfl fun g11 => ?_
          conv => arg 8; simp only [zA, zB, zC, zD, zE, zF, zG, zH, zI, rowS, ret, id_eq]
          refine TL_storeB (i := 8) (cs' := (clsL (rangeF f f)).toArray) rfl rfl rfl rfl rfl rfl ?_
          conv => arg 8; simp only [zA, zB, zC, zD, zE, zF, zG, zH, zI, rowS, ret, id_eq]
          repeat (first
            | refine qv rfl (qp rfl) rfl rfl ?_ | refine TL_nil ?_ | refine T_seq ?_ | refine T_region ?_ | refine qcT rfl ?_ | refine qcF rfl ?_ | refine T_skip ?_
            | refine T_exit ?_ | refine T_ret ?_ | refine T_block ?_ | refine E_then ?_ | refine E_thenX ?_ | refine E_thenR ?_ | refine E_blockN ?_
            | refine E_blockR ?_ | refine E_blockX ?_ | refine E_blockO rfl ?_ | refine qs rfl rfl rfl rfl rfl rfl ?_
            | ((try refine qg rfl rfl rfl ?_); first | refine qv rfl (qp rfl) rfl rfl ?_ | refine qv rfl (rr_strlen Und.eq rfl) rfl rfl ?_ | refine qv rfl (qfld FldC.fld rfl rfl) rfl rfl ?_ | refine qv rfl (rr_nilc rfl) rfl rfl ?_ | refine qv rfl (rr_lss rfl rfl (qT (by omega))) rfl rfl ?_ | refine qv rfl (rr_lss rfl rfl (qF (by omega))) rfl rfl ?_ | refine qv rfl (rr_eql rfl rfl (qT (by omega))) rfl rfl ?_ | refine qv rfl (rr_eql rfl rfl (qF (by omega))) rfl rfl ?_ | refine qv rfl (rr_add64 rfl rfl (by omega) (by omega) rfl) rfl rfl ?_))
          refine T_pick [0, 1, 2, 3, 4, 5, 7, 8] (by decide) rfl ?_
          refine T_loop (ι := C4 × C4 × (At2 → Option Value) × Nat × Nat) (fun (out, now, m, n, _) => StI s a f out now ∧ MOk s N m n) (fun (_, _, _, _, g11) => [(0, .pointer (some ⟨gs, 0, none⟩)), (4, .pointer (some ⟨g4, 0, none⟩)), (6, .pointer (some ⟨g6, 0, none⟩)), (7, .pointer (some ⟨g7, 0, none⟩)), (10, .pointer (some ⟨g10, 0, none⟩)), (11, .pointer (some ⟨g11, 0, none⟩))])
            (fun (out, now, m, n, g11) => [blkO gs #[str s, .map (some gm)] 74, mapO atK gm m n, frozO F w1, blkO g4 (numC (.star a) k vk (.slice (some ⟨bk, off, none⟩) 1 cap)).toArray 78, blkO g6 (clsL C4.zero).toArray 34, blkO g7 (atC (k, f)).toArray 93, blkO g10 (clsL out).toArray 34, blkO g11 (clsL now).toArray 34]) (fun (out, now, _, _, _) => muS out now) (rangeF f f, rangeF f f, m, n, g11) ⟨hst, hmk⟩ (by repeat' (first | exact True.intro | refine And.intro rfl ?_)) rfl ?_
          clear hmk hst e g11
          rintro ⟨out, now, m, n, g11⟩ ⟨hst, hmk⟩
          dsimp only at hst hmk ⊢
          have heq := eqCls now C4.zero
          by_cases c1 : now = C4.zero
          · subst c1
            rw [decide_eq_true rfl] at heq
            repeat (first
              | refine qv rfl (qp rfl) rfl rfl ?_ | refine TL_nil ?_ | refine T_seq ?_ | refine T_region ?_ | refine qcT rfl ?_ | refine qcF rfl ?_ | refine T_skip ?_
              | refine T_exit ?_ | refine T_ret ?_ | refine T_block ?_ | refine E_then ?_ | refine E_thenX ?_ | refine E_thenR ?_ | refine E_blockN ?_
              | refine E_blockR ?_ | refine E_blockX ?_ | refine E_blockO rfl ?_ | refine qs rfl rfl rfl rfl rfl rfl ?_
              | ((try refine qg rfl rfl rfl ?_); first | refine qv rfl (qp rfl) rfl rfl ?_ | refine qv rfl (rr_loadB (i := 7) TyC.ty rfl rfl rfl) rfl rfl ?_ | refine qv rfl (rr_build rfl hbz) rfl rfl ?_ | refine qv rfl (rr_aggne rfl rfl (by kernel_rfl) heq rfl) rfl rfl ?_ | refine qv rfl (rr_strlen Und.eq rfl) rfl rfl ?_ | refine qv rfl (qfld FldC.fld rfl rfl) rfl rfl ?_ | refine qv rfl (rr_nilc rfl) rfl rfl ?_ | refine qv rfl (rr_lss rfl rfl (qT (by omega))) rfl rfl ?_ | refine qv rfl (rr_lss rfl rfl (qF (by omega))) rfl rfl ?_ | refine qv rfl (rr_eql rfl rfl (qT (by omega))) rfl rfl ?_ | refine qv rfl (rr_eql rfl rfl (qF (by omega))) rfl rfl ?_ | refine qv rfl (rr_add64 rfl rfl (by omega) (by omega) rfl) rfl rfl ?_))
            refine E_pick [0, 1, 2, 4, 5, 6] (by decide) rfl ?_
            exact E_mid (out, m, n) ⟨sti_end hs hf hst, hmk⟩ (by repeat' (first | exact True.intro | refine And.intro rfl ?_)) rfl
          · rw [decide_eq_false c1] at heq
            have hle := hst.le hf
            have hmu := fun e => mu_next (out := out) (e := e) c1
            repeat (first
              | refine qv rfl (qp rfl) rfl rfl ?_ | refine TL_nil ?_ | refine T_seq ?_ | refine T_region ?_ | refine qcT rfl ?_ | refine qcF rfl ?_ | refine T_skip ?_
              | refine T_exit ?_ | refine T_ret ?_ | refine T_block ?_ | refine E_then ?_ | refine E_thenX ?_ | refine E_thenR ?_ | refine E_blockN ?_
              | refine E_blockR ?_ | refine E_blockX ?_ | refine E_blockO rfl ?_ | refine qs rfl rfl rfl rfl rfl rfl ?_
              | ((try refine qg rfl rfl rfl ?_); first | refine qv rfl (qp rfl) rfl rfl ?_ | refine qv rfl (rr_loadB (i := 7) TyC.ty rfl rfl rfl) rfl rfl ?_ | refine qv rfl (rr_build rfl hbz) rfl rfl ?_ | refine qv rfl (rr_aggne rfl rfl (by kernel_rfl) heq rfl) rfl rfl ?_ | refine qv rfl (rr_strlen Und.eq rfl) rfl rfl ?_ | refine qv rfl (qfld FldC.fld rfl rfl) rfl rfl ?_ | refine qv rfl (rr_nilc rfl) rfl rfl ?_ | refine qv rfl (rr_lss rfl rfl (qT (by omega))) rfl rfl ?_ | refine qv rfl (rr_lss rfl rfl (qF (by omega))) rfl rfl ?_ | refine qv rfl (rr_eql rfl rfl (qT (by omega))) rfl rfl ?_ | refine qv rfl (rr_eql rfl rfl (qF (by omega))) rfl rfl ?_ | refine qv rfl (rr_add64 rfl rfl (by omega) (by omega) rfl) rfl rfl ?_))
            (repeat refine T_seq ?_)
            refine T_midq (ι := C4 × (At2 → Option Value) × Nat × Nat) (fun (e, m, n, _) => EachC s a now e ∧ MOk s N m n) (fun (_, _, _, g12) => [(0, .pointer (some ⟨gs, 0, none⟩)), (4, .pointer (some ⟨g4, 0, none⟩)), (6, .pointer (some ⟨g6, 0, none⟩)), (7, .pointer (some ⟨g7, 0, none⟩)), (10, .pointer (some ⟨g10, 0, none⟩)), (11, .pointer (some ⟨g11, 0, none⟩)), (12, .pointer (some ⟨g12, 0, none⟩))])
              (fun (e, m, n, g12) => [blkO gs #[str s, .map (some gm)] 74, mapO atK gm m n, frozO F w1, blkO g4 (numC (.star a) k vk (.slice (some ⟨bk, off, none⟩) 1 cap)).toArray 78, blkO g6 (clsL C4.zero).toArray 34, blkO g7 (atC (k, f)).toArray 93, blkO g10 (clsL out).toArray 34, blkO g11 (clsL now).toArray 34, blkO g12 (clsL (e.meet out.not)).toArray 34]) ?_ ?_
            · refine T_ord ([frozO F w1, blkO g4 (numC (.star a) k vk (.slice (some ⟨bk, off, none⟩) 1 cap)).toArray 78, blkO g10 (clsL out).toArray 34, blkO g11 (clsL now).toArray 34]) (.calm 0 (.calm 1 (.calm 2 (.calm 3 (.calm 4 (.calm 5 (.calm 7 (.two 6 (.calm 8 (.calm 9 (.one 10 (.one 11 (.done))))) 10 (.one 6 (.calm 8 (.calm 9 (.one 11 (.done))))))))))))) (sub_pick [2, 3, 6, 7] (by decide) rfl) (by kernel_rfl) (by kernel_rfl) (by intro c a d v w h; cases d <;> exact h) ?_
              repeat (first
                | ((first | refine TW_plain rfl rfl ?_ | refine TW_gmet rfl rfl rfl rfl ?_); first | refine TN_val (qp rfl) rfl rfl ?_ | refine TN_val (rr_loadB (i := 3) TyC.ty rfl rfl rfl) rfl rfl ?_ | refine TN_val (rr_load1 (v := .slice (some ⟨bk, off, none⟩) 1 cap) TyC.ty rfl (at_blk (i := 1) rfl rfl)) rfl rfl ?_ | refine TN_val (rr_idxc (j := 0) Und.eq TyC.ty rfl rfl (by decide)) rfl rfl ?_ | refine TN_val (rr_loadN (cs := numC a (k + 1) vk0 v0) TyC.ty rfl rfl (at_froz (i := 0) rfl hF r0)) rfl rfl ?_ | refine TN_val (rr_loadB (i := 2) TyC.ty rfl rfl rfl) rfl rfl ?_ | refine TN_val (rr_strlen Und.eq rfl) rfl rfl ?_ | refine TN_val (qfld FldC.fld rfl rfl) rfl rfl ?_ | refine TN_val (rr_nilc rfl) rfl rfl ?_ | refine TN_val (rr_lss rfl rfl (qT (by omega))) rfl rfl ?_ | refine TN_val (rr_lss rfl rfl (qF (by omega))) rfl rfl ?_ | refine TN_val (rr_eql rfl rfl (qT (by omega))) rfl rfl ?_ | refine TN_val (rr_eql rfl rfl (qF (by omega))) rfl rfl ?_ | refine TN_val (rr_add64 rfl rfl (by omega) (by omega) rfl) rfl rfl ?_)
                | refine TW_skip rfl rfl rfl rfl rfl rfl rfl ?_ | refine TW_done ?_)
              refine TW_two rfl rfl ?_ ?_
              · refine TL_callB [0, 1, 2] [3, 4, 5, 6, 7] (by decide) rfl rfl (he3 EntersC.en rfl rfl rfl rfl) (fun w hm hb => each4_calls w0 hT s hs N gs gm F w1 a _ _ _ E0 o0 p0 now hle m n w _ hmk (ho.on hm (by intro o ho; simp [spO, mO] at ho ⊢; rcases ho with h | h | h <;> simp [h])) hb) rfl rfl rfl ?_
                rintro ⟨e, m', n'⟩ ⟨he, hmk'⟩
                conv => arg 8; simp only [zA, zB, zC, zD, zE, zF, zG, zH, zI, rowS, ret, id_eq, eachSp]
                refine TW_on (sub_pick [7, 0, 3, 4] (by decide) rfl) ?_
                repeat (first
                  | ((first | refine TW_plain rfl rfl ?_ | refine TW_gmet rfl rfl rfl rfl ?_); first | refine TN_val (qp rfl) rfl rfl ?_ | refine TN_val (rr_strlen Und.eq rfl) rfl rfl ?_ | refine TN_val (qfld FldC.fld rfl rfl) rfl rfl ?_ | refine TN_val (rr_nilc rfl) rfl rfl ?_ | refine TN_val (rr_lss rfl rfl (qT (by omega))) rfl rfl ?_ | refine TN_val (rr_lss rfl rfl (qF (by omega))) rfl rfl ?_ | refine TN_val (rr_eql rfl rfl (qT (by omega))) rfl rfl ?_ | refine TN_val (rr_eql rfl rfl (qF (by omega))) rfl rfl ?_ | refine TN_val (rr_add64 rfl rfl (by omega) (by omega) rfl) rfl rfl ?_)
                  | refine TW_skip rfl rfl rfl rfl rfl rfl rfl ?_ | refine TW_done ?_)
                refine TW_call rfl (he1 EntersC.en rfl rfl) (fun w hm => hnot out _) rfl rfl rfl ?_
                repeat (first
                  | ((first | refine TW_plain rfl rfl ?_ | refine TW_gmet rfl rfl rfl rfl ?_); first | refine TN_val (qp rfl) rfl rfl ?_ | refine TN_val (rr_strlen Und.eq rfl) rfl rfl ?_ | refine TN_val (qfld FldC.fld rfl rfl) rfl rfl ?_ | refine TN_val (rr_nilc rfl) rfl rfl ?_ | refine TN_val (rr_lss rfl rfl (qT (by omega))) rfl rfl ?_ | refine TN_val (rr_lss rfl rfl (qF (by omega))) rfl rfl ?_ | refine TN_val (rr_eql rfl rfl (qT (by omega))) rfl rfl ?_ | refine TN_val (rr_eql rfl rfl (qF (by omega))) rfl rfl ?_ | refine TN_val (rr_add64 rfl rfl (by omega) (by omega) rfl) rfl rfl ?_)
                  | refine TW_skip rfl rfl rfl rfl rfl rfl rfl ?_ | refine TW_done ?_)
                refine TW_call rfl (he2 EntersC.en rfl rfl rfl) (fun w hm => hmeet e out.not _) rfl rfl rfl ?_
                repeat (first
                  | ((first | refine TW_plain rfl rfl ?_ | refine TW_gmet rfl rfl rfl rfl ?_); first | refine TN_val (qp rfl) rfl rfl ?_ | refine TN_val (rr_strlen Und.eq rfl) rfl rfl ?_ | refine TN_val (qfld FldC.fld rfl rfl) rfl rfl ?_ | refine TN_val (rr_nilc rfl) rfl rfl ?_ | refine TN_val (rr_lss rfl rfl (qT (by omega))) rfl rfl ?_ | refine TN_val (rr_lss rfl rfl (qF (by omega))) rfl rfl ?_ | refine TN_val (rr_eql rfl rfl (qT (by omega))) rfl rfl ?_ | refine TN_val (rr_eql rfl rfl (qF (by omega))) rfl rfl ?_ | refine TN_val (rr_add64 rfl rfl (by omega) (by omega) rfl) rfl rfl ?_)
                  | refine TW_skip rfl rfl rfl rfl rfl rfl rfl ?_ | refine TW_done ?_)
                refine TW_one rfl (TL_new rfl fun g12 => TW_on (sub_pick [7, 0, 3, 4] (by decide) rfl) ?_)
                refine TW_one rfl (TL_storeB (i := 8) (cs' := (clsL (e.meet out.not)).toArray) rfl rfl rfl rfl rfl rfl (TW_on (sub_pick [7, 0, 3, 4] (by decide) rfl) ?_))
                repeat (first
                  | ((first | refine TW_plain rfl rfl ?_ | refine TW_gmet rfl rfl rfl rfl ?_); first | refine TN_val (qp rfl) rfl rfl ?_ | refine TN_val (rr_strlen Und.eq rfl) rfl rfl ?_ | refine TN_val (qfld FldC.fld rfl rfl) rfl rfl ?_ | refine TN_val (rr_nilc rfl) rfl rfl ?_ | refine TN_val (rr_lss rfl rfl (qT (by omega))) rfl rfl ?_ | refine TN_val (rr_lss rfl rfl (qF (by omega))) rfl rfl ?_ | refine TN_val (rr_eql rfl rfl (qT (by omega))) rfl rfl ?_ | refine TN_val (rr_eql rfl rfl (qF (by omega))) rfl rfl ?_ | refine TN_val (rr_add64 rfl rfl (by omega) (by omega) rfl) rfl rfl ?_)
                  | refine TW_skip rfl rfl rfl rfl rfl rfl rfl ?_ | refine TW_done ?_)
                refine E_pick [5, 6, 7, 0, 1, 2, 3, 4, 8] (by decide) rfl ?_
                exact E_mid (e, m', n', g12) ⟨he, hmk'⟩ (by repeat' (first | exact True.intro | refine And.intro rfl ?_)) rfl
              · refine TL_new rfl fun g12 => TW_on (sub_pick [2, 3, 6, 7] (by decide) rfl) ?_
                refine TW_one rfl (TL_callB [0, 1, 2] [3, 4, 5, 6, 7, 8] (by decide) rfl rfl (he3 EntersC.en rfl rfl rfl rfl) (fun w hm hb => each4_calls w0 hT s hs N gs gm F w1 a _ _ _ E0 o0 p0 now hle m n w _ hmk (ho.on hm (by intro o ho; simp [spO, mO] at ho ⊢; rcases ho with h | h | h <;> simp [h])) hb) rfl rfl rfl ?_)
                rintro ⟨e, m', n'⟩ ⟨he, hmk'⟩
                conv => arg 8; simp only [zA, zB, zC, zD, zE, zF, zG, zH, zI, rowS, ret, id_eq, eachSp]
                refine TW_on (sub_pick [8, 0, 3, 4] (by decide) rfl) ?_
                repeat (first
                  | ((first | refine TW_plain rfl rfl ?_ | refine TW_gmet rfl rfl rfl rfl ?_); first | refine TN_val (qp rfl) rfl rfl ?_ | refine TN_val (rr_strlen Und.eq rfl) rfl rfl ?_ | refine TN_val (qfld FldC.fld rfl rfl) rfl rfl ?_ | refine TN_val (rr_nilc rfl) rfl rfl ?_ | refine TN_val (rr_lss rfl rfl (qT (by omega))) rfl rfl ?_ | refine TN_val (rr_lss rfl rfl (qF (by omega))) rfl rfl ?_ | refine TN_val (rr_eql rfl rfl (qT (by omega))) rfl rfl ?_ | refine TN_val (rr_eql rfl rfl (qF (by omega))) rfl rfl ?_ | refine TN_val (rr_add64 rfl rfl (by omega) (by omega) rfl) rfl rfl ?_)
                  | refine TW_skip rfl rfl rfl rfl rfl rfl rfl ?_ | refine TW_done ?_)
                refine TW_call rfl (he1 EntersC.en rfl rfl) (fun w hm => hnot out _) rfl rfl rfl ?_
                repeat (first
                  | ((first | refine TW_plain rfl rfl ?_ | refine TW_gmet rfl rfl rfl rfl ?_); first | refine TN_val (qp rfl) rfl rfl ?_ | refine TN_val (rr_strlen Und.eq rfl) rfl rfl ?_ | refine TN_val (qfld FldC.fld rfl rfl) rfl rfl ?_ | refine TN_val (rr_nilc rfl) rfl rfl ?_ | refine TN_val (rr_lss rfl rfl (qT (by omega))) rfl rfl ?_ | refine TN_val (rr_lss rfl rfl (qF (by omega))) rfl rfl ?_ | refine TN_val (rr_eql rfl rfl (qT (by omega))) rfl rfl ?_ | refine TN_val (rr_eql rfl rfl (qF (by omega))) rfl rfl ?_ | refine TN_val (rr_add64 rfl rfl (by omega) (by omega) rfl) rfl rfl ?_)
                  | refine TW_skip rfl rfl rfl rfl rfl rfl rfl ?_ | refine TW_done ?_)
                refine TW_call rfl (he2 EntersC.en rfl rfl rfl) (fun w hm => hmeet e out.not _) rfl rfl rfl ?_
                repeat (first
                  | ((first | refine TW_plain rfl rfl ?_ | refine TW_gmet rfl rfl rfl rfl ?_); first | refine TN_val (qp rfl) rfl rfl ?_ | refine TN_val (rr_strlen Und.eq rfl) rfl rfl ?_ | refine TN_val (qfld FldC.fld rfl rfl) rfl rfl ?_ | refine TN_val (rr_nilc rfl) rfl rfl ?_ | refine TN_val (rr_lss rfl rfl (qT (by omega))) rfl rfl ?_ | refine TN_val (rr_lss rfl rfl (qF (by omega))) rfl rfl ?_ | refine TN_val (rr_eql rfl rfl (qT (by omega))) rfl rfl ?_ | refine TN_val (rr_eql rfl rfl (qF (by omega))) rfl rfl ?_ | refine TN_val (rr_add64 rfl rfl (by omega) (by omega) rfl) rfl rfl ?_)
                  | refine TW_skip rfl rfl rfl rfl rfl rfl rfl ?_ | refine TW_done ?_)
                refine TW_one rfl (TL_storeB (i := 5) (cs' := (clsL (e.meet out.not)).toArray) rfl rfl rfl rfl rfl rfl (TW_on (sub_pick [8, 0, 3, 4] (by decide) rfl) ?_))
                repeat (first
                  | ((first | refine TW_plain rfl rfl ?_ | refine TW_gmet rfl rfl rfl rfl ?_); first | refine TN_val (qp rfl) rfl rfl ?_ | refine TN_val (rr_strlen Und.eq rfl) rfl rfl ?_ | refine TN_val (qfld FldC.fld rfl rfl) rfl rfl ?_ | refine TN_val (rr_nilc rfl) rfl rfl ?_ | refine TN_val (rr_lss rfl rfl (qT (by omega))) rfl rfl ?_ | refine TN_val (rr_lss rfl rfl (qF (by omega))) rfl rfl ?_ | refine TN_val (rr_eql rfl rfl (qT (by omega))) rfl rfl ?_ | refine TN_val (rr_eql rfl rfl (qF (by omega))) rfl rfl ?_ | refine TN_val (rr_add64 rfl rfl (by omega) (by omega) rfl) rfl rfl ?_)
                  | refine TW_skip rfl rfl rfl rfl rfl rfl rfl ?_ | refine TW_done ?_)
                refine E_pick [6, 7, 8, 0, 1, 2, 3, 4, 5] (by decide) rfl ?_
                exact E_mid (e, m', n', g12) ⟨he, hmk'⟩ (by repeat' (first | exact True.intro | refine And.intro rfl ?_)) rfl
            · rintro ⟨e, m', n', g12⟩ ⟨he, hmk'⟩
              dsimp only at he hmk' ⊢
              have hnx := sti_next hs hst he
              have hmu' := hmu e
              clear hmu
              generalize e.meet out.not = nx at *
              (repeat refine T_seq ?_)
              refine T_ord ([blkO g12 (clsL nx).toArray 34]) (.calm 1 (.calm 3 (.one 0 (.calm 2 (.one 4 (.one 5 (.done))))))) (sub_pick [8] (by decide) rfl) (by kernel_rfl) (by kernel_rfl) (by intro c a d v w h; cases d <;> exact h) ?_
              repeat (first
                | ((first | refine TW_plain rfl rfl ?_ | refine TW_gmet rfl rfl rfl rfl ?_); first | refine TN_val (qp rfl) rfl rfl ?_ | refine TN_val (rr_loadB (i := 0) TyC.ty rfl rfl rfl) rfl rfl ?_ | refine TN_val (rr_strlen Und.eq rfl) rfl rfl ?_ | refine TN_val (qfld FldC.fld rfl rfl) rfl rfl ?_ | refine TN_val (rr_nilc rfl) rfl rfl ?_ | refine TN_val (rr_lss rfl rfl (qT (by omega))) rfl rfl ?_ | refine TN_val (rr_lss rfl rfl (qF (by omega))) rfl rfl ?_ | refine TN_val (rr_eql rfl rfl (qT (by omega))) rfl rfl ?_ | refine TN_val (rr_eql rfl rfl (qF (by omega))) rfl rfl ?_ | refine TN_val (rr_add64 rfl rfl (by omega) (by omega) rfl) rfl rfl ?_)
                | refine TW_skip rfl rfl rfl rfl rfl rfl rfl ?_ | refine TW_done ?_)
              refine TW_one rfl (TL_val (rr_loadB (i := 6) TyC.ty rfl rfl rfl) rfl rfl rfl (TW_on (sub_pick [8] (by decide) rfl) ?_))
              repeat (first
                | ((first | refine TW_plain rfl rfl ?_ | refine TW_gmet rfl rfl rfl rfl ?_); first | refine TN_val (qp rfl) rfl rfl ?_ | refine TN_val (rr_strlen Und.eq rfl) rfl rfl ?_ | refine TN_val (qfld FldC.fld rfl rfl) rfl rfl ?_ | refine TN_val (rr_nilc rfl) rfl rfl ?_ | refine TN_val (rr_lss rfl rfl (qT (by omega))) rfl rfl ?_ | refine TN_val (rr_lss rfl rfl (qF (by omega))) rfl rfl ?_ | refine TN_val (rr_eql rfl rfl (qT (by omega))) rfl rfl ?_ | refine TN_val (rr_eql rfl rfl (qF (by omega))) rfl rfl ?_ | refine TN_val (rr_add64 rfl rfl (by omega) (by omega) rfl) rfl rfl ?_)
                | refine TW_skip rfl rfl rfl rfl rfl rfl rfl ?_ | refine TW_done ?_)
              refine TW_call rfl (he2 EntersC.en rfl rfl rfl) (fun w hm => hjoin out nx _) rfl rfl rfl ?_
              refine TW_one rfl (TL_storeB (i := 6) (cs' := (clsL (out.join nx)).toArray) rfl rfl rfl rfl rfl rfl (TW_on (sub_pick [8] (by decide) rfl) ?_))
              refine TW_one rfl (TL_storeB (i := 7) (cs' := (clsL nx).toArray) rfl rfl rfl rfl rfl rfl (TW_on (sub_pick [8] (by decide) rfl) ?_))
              repeat (first
                | ((first | refine TW_plain rfl rfl ?_ | refine TW_gmet rfl rfl rfl rfl ?_); first | refine TN_val (qp rfl) rfl rfl ?_ | refine TN_val (rr_strlen Und.eq rfl) rfl rfl ?_ | refine TN_val (qfld FldC.fld rfl rfl) rfl rfl ?_ | refine TN_val (rr_nilc rfl) rfl rfl ?_ | refine TN_val (rr_lss rfl rfl (qT (by omega))) rfl rfl ?_ | refine TN_val (rr_lss rfl rfl (qF (by omega))) rfl rfl ?_ | refine TN_val (rr_eql rfl rfl (qT (by omega))) rfl rfl ?_ | refine TN_val (rr_eql rfl rfl (qF (by omega))) rfl rfl ?_ | refine TN_val (rr_add64 rfl rfl (by omega) (by omega) rfl) rfl rfl ?_)
                | refine TW_skip rfl rfl rfl rfl rfl rfl rfl ?_ | refine TW_done ?_)
              repeat (first
                | refine qv rfl (qp rfl) rfl rfl ?_ | refine TL_nil ?_ | refine T_seq ?_ | refine T_region ?_ | refine qcT rfl ?_ | refine qcF rfl ?_ | refine T_skip ?_
                | refine T_exit ?_ | refine T_ret ?_ | refine T_block ?_ | refine E_then ?_ | refine E_thenX ?_ | refine E_thenR ?_ | refine E_blockN ?_
                | refine E_blockR ?_ | refine E_blockX ?_ | refine E_blockO rfl ?_ | refine qs rfl rfl rfl rfl rfl rfl ?_
                | ((try refine qg rfl rfl rfl ?_); first | refine qv rfl (qp rfl) rfl rfl ?_ | refine qv rfl (rr_loadB (i := 7) TyC.ty rfl rfl rfl) rfl rfl ?_ | refine qv rfl (rr_strlen Und.eq rfl) rfl rfl ?_ | refine qv rfl (qfld FldC.fld rfl rfl) rfl rfl ?_ | refine qv rfl (rr_nilc rfl) rfl rfl ?_ | refine qv rfl (rr_lss rfl rfl (qT (by omega))) rfl rfl ?_ | refine qv rfl (rr_lss rfl rfl (qF (by omega))) rfl rfl ?_ | refine qv rfl (rr_eql rfl rfl (qT (by omega))) rfl rfl ?_ | refine qv rfl (rr_eql rfl rfl (qF (by omega))) rfl rfl ?_ | refine qv rfl (rr_add64 rfl rfl (by omega) (by omega) rfl) rfl rfl ?_))
              refine TL_new rfl fun g11' => ?_
              conv => arg 8; simp only [zA, zB, zC, zD, zE, zF, zG, zH, zI, rowS, ret, id_eq]
              refine TL_storeB (i := 9) (cs' := (clsL nx).toArray) rfl rfl rfl rfl rfl rfl ?_
              conv => arg 8; simp only [zA, zB, zC, zD, zE, zF, zG, zH, zI, rowS, ret, id_eq]
              repeat (first
                | refine qv rfl (qp rfl) rfl rfl ?_ | refine TL_nil ?_ | refine T_seq ?_ | refine T_region ?_ | refine qcT rfl ?_ | refine qcF rfl ?_ | refine T_skip ?_
                | refine T_exit ?_ | refine T_ret ?_ | refine T_block ?_ | refine E_then ?_ | refine E_thenX ?_ | refine E_thenR ?_ | refine E_blockN ?_
                | refine E_blockR ?_ | refine E_blockX ?_ | refine E_blockO rfl ?_ | refine qs rfl rfl rfl rfl rfl rfl ?_
                | ((try refine qg rfl rfl rfl ?_); first | refine qv rfl (qp rfl) rfl rfl ?_ | refine qv rfl (rr_strlen Und.eq rfl) rfl rfl ?_ | refine qv rfl (qfld FldC.fld rfl rfl) rfl rfl ?_ | refine qv rfl (rr_nilc rfl) rfl rfl ?_ | refine qv rfl (rr_lss rfl rfl (qT (by omega))) rfl rfl ?_ | refine qv rfl (rr_lss rfl rfl (qF (by omega))) rfl rfl ?_ | refine qv rfl (rr_eql rfl rfl (qT (by omega))) rfl rfl ?_ | refine qv rfl (rr_eql rfl rfl (qF (by omega))) rfl rfl ?_ | refine qv rfl (rr_add64 rfl rfl (by omega) (by omega) rfl) rfl rfl ?_))
              refine E_pick [0, 1, 2, 3, 4, 5, 6, 9] (by decide) rfl ?_
              exact E_round (out.join nx, nx, m', n', g11') ⟨hnx, hmk'⟩ hmu' (by repeat' (first | exact True.intro | refine And.intro rfl ?_)) rfl
      · rintro ⟨c, m', n'⟩ ⟨hc, hmk'⟩
        dsimp only at hc hmk' ⊢
        have hset := hmk'.set hs (k := k) (f := f) (by omega) hf (c := c) (by rw [hNk]; exact hc)
        have hn' := hmk'.le
        (repeat refine T_seq ?_)
        refine T_ord ([blkO gs #[str s, .map (some gm)] 74, blkO g7 (atC (k, f)).toArray 93, blkO g10 (clsL c).toArray 34]) (.calm 0 (.calm 1 (.calm 2 (.calm 3 (.calm 4 (.calm 5 (.one 6 (.done)))))))) (sub_pick [0, 4, 5] (by decide) rfl) (by kernel_rfl) (by kernel_rfl) (by intro c a d v w h; cases d <;> exact h) ?_
        repeat (first
          | ((first | refine TW_plain rfl rfl ?_ | refine TW_gmet rfl rfl rfl rfl ?_); first | refine TN_val (qp rfl) rfl rfl ?_ | refine TN_val (rr_nilc rfl) rfl rfl ?_ | refine TN_val (rr_load1 TyC.ty rfl (at_blk (i := 0) rfl rfl)) rfl rfl ?_ | refine TN_val (rr_loadB (i := 1) TyC.ty rfl rfl rfl) rfl rfl ?_ | refine TN_val (rr_loadB (i := 2) TyC.ty rfl rfl rfl) rfl rfl ?_ | refine TN_val (rr_strlen Und.eq rfl) rfl rfl ?_ | refine TN_val (qfld FldC.fld rfl rfl) rfl rfl ?_ | refine TN_val (rr_nilc rfl) rfl rfl ?_ | refine TN_val (rr_lss rfl rfl (qT (by omega))) rfl rfl ?_ | refine TN_val (rr_lss rfl rfl (qF (by omega))) rfl rfl ?_ | refine TN_val (rr_eql rfl rfl (qT (by omega))) rfl rfl ?_ | refine TN_val (rr_eql rfl rfl (qF (by omega))) rfl rfl ?_ | refine TN_val (rr_add64 rfl rfl (by omega) (by omega) rfl) rfl rfl ?_)
          | refine TW_skip rfl rfl rfl rfl rfl rfl rfl ?_ | refine TW_done ?_)
        refine TW_one rfl (TL_mapSet atK (i := 1) (x := (k, f)) Und.eq rfl rfl rfl rfl hkey (by omega) (TW_on (sub_pick [0, 4, 5] (by decide) rfl) ?_))
        repeat (first
          | ((first | refine TW_plain rfl rfl ?_ | refine TW_gmet rfl rfl rfl rfl ?_); first | refine TN_val (qp rfl) rfl rfl ?_ | refine TN_val (rr_strlen Und.eq rfl) rfl rfl ?_ | refine TN_val (qfld FldC.fld rfl rfl) rfl rfl ?_ | refine TN_val (rr_nilc rfl) rfl rfl ?_ | refine TN_val (rr_lss rfl rfl (qT (by omega))) rfl rfl ?_ | refine TN_val (rr_lss rfl rfl (qF (by omega))) rfl rfl ?_ | refine TN_val (rr_eql rfl rfl (qT (by omega))) rfl rfl ?_ | refine TN_val (rr_eql rfl rfl (qF (by omega))) rfl rfl ?_ | refine TN_val (rr_add64 rfl rfl (by omega) (by omega) rfl) rfl rfl ?_)
          | refine TW_skip rfl rfl rfl rfl rfl rfl rfl ?_ | refine TW_done ?_)
        repeat (first
          | refine qv rfl (qp rfl) rfl rfl ?_ | refine TL_nil ?_ | refine T_seq ?_ | refine T_region ?_ | refine qcT rfl ?_ | refine qcF rfl ?_ | refine T_skip ?_
          | refine T_exit ?_ | refine T_ret ?_ | refine T_block ?_ | refine E_then ?_ | refine E_thenX ?_ | refine E_thenR ?_ | refine E_blockN ?_
          | refine E_blockR ?_ | refine E_blockX ?_ | refine E_blockO rfl ?_ | refine qs rfl rfl rfl rfl rfl rfl ?_
          | ((try refine qg rfl rfl rfl ?_); first | refine qv rfl (qp rfl) rfl rfl ?_ | refine qv rfl (rr_loadB (i := 5) TyC.ty rfl rfl rfl) rfl rfl ?_ | refine qv rfl (rr_strlen Und.eq rfl) rfl rfl ?_ | refine qv rfl (qfld FldC.fld rfl rfl) rfl rfl ?_ | refine qv rfl (rr_nilc rfl) rfl rfl ?_ | refine qv rfl (rr_lss rfl rfl (qT (by omega))) rfl rfl ?_ | refine qv rfl (rr_lss rfl rfl (qF (by omega))) rfl rfl ?_ | refine qv rfl (rr_eql rfl rfl (qT (by omega))) rfl rfl ?_ | refine qv rfl (rr_eql rfl rfl (qF (by omega))) rfl rfl ?_ | refine qv rfl (rr_add64 rfl rfl (by omega) (by omega) rfl) rfl rfl ?_))
        refine TL_storeB (i := 3) (cs' := (clsL c).toArray) rfl rfl rfl rfl rfl rfl ?_
        conv => arg 8; simp only [zA, zB, zC, zD, zE, zF, zG, zH, zI, rowS, ret, id_eq]
        repeat (first
          | refine qv rfl (qp rfl) rfl rfl ?_ | refine TL_nil ?_ | refine T_seq ?_ | refine T_region ?_ | refine qcT rfl ?_ | refine qcF rfl ?_ | refine T_skip ?_
          | refine T_exit ?_ | refine T_ret ?_ | refine T_block ?_ | refine E_then ?_ | refine E_thenX ?_ | refine E_thenR ?_ | refine E_blockN ?_
          | refine E_blockR ?_ | refine E_blockX ?_ | refine E_blockO rfl ?_ | refine qs rfl rfl rfl rfl rfl rfl ?_
          | ((try refine qg rfl rfl rfl ?_); first | refine qv rfl (qp rfl) rfl rfl ?_ | refine qv rfl (rr_strlen Und.eq rfl) rfl rfl ?_ | refine qv rfl (qfld FldC.fld rfl rfl) rfl rfl ?_ | refine qv rfl (rr_nilc rfl) rfl rfl ?_ | refine qv rfl (rr_lss rfl rfl (qT (by omega))) rfl rfl ?_ | refine qv rfl (rr_lss rfl rfl (qF (by omega))) rfl rfl ?_ | refine qv rfl (rr_eql rfl rfl (qT (by omega))) rfl rfl ?_ | refine qv rfl (rr_eql rfl rfl (qF (by omega))) rfl rfl ?_ | refine qv rfl (rr_add64 rfl rfl (by omega) (by omega) rfl) rfl rfl ?_))
        refine E_retc1 (i := 3) rfl rfl rfl rfl fun w hm => ?_
        exact hm.meetsB (S := endSp s N gs gm F w1 r f) (c, _, _) ⟨hc, hset⟩ [0, 1, 2] (by decide) rfl
end Go.Proofs.YtndbaalenclgaaaDoor.eng

/- RexPl -/
namespace Go.Proofs.YtndbaalenclgaaaDoor.eng
open Go.RowKit kit mix classL rexL classSets
theorem build_rexL (c : C4) (w : World) : (Instr.build 36 #[(0, .int .i64 3), (1, clsV c)]).run Tryd.prog w = .ok (rexV 3 c (.slice none 0 0)) w := by kernel_rfl
theorem letter_calls (b : Int) (w : World) (hb : kit.okI64 b) : Calls Tryd.prog 5 #[.int .i64 b] w (Meets (ret (rexV 3 (rangeF b b) (.slice none 0 0))) w) := by
  have hr := fun w => rangeE b b hb hb w
  have hbl := build_rexL (rangeF b b)
  generalize rangeF b b = c at *
  refine enter (args := [.int .i64 b]) (n := 7) Tryd.func5 rfl rfl rfl ?_
  refine T_seq (T_region (TL_new rfl fun g2 => ?_))
  conv => arg 8; simp only [zA, zB, zC, zD, zE, zF, zG, zH, zI, rowS, ret, id_eq]
  repeat (first
    | refine qv rfl (qp rfl) rfl rfl ?_ | refine TL_nil ?_ | refine T_seq ?_ | refine T_region ?_ | refine T_ret ?_ | refine E_then ?_ | refine E_thenR ?_)
  refine TL_call (he2 EntersC.en rfl rfl rfl) (fun w hm => hr _) rfl rfl rfl ?_
  intro _ _
  conv => arg 8; simp only [zA, zB, zC, zD, zE, zF, zG, zH, zI, rowS, ret, id_eq]
  repeat (first
    | refine qv rfl (qp rfl) rfl rfl ?_ | refine TL_nil ?_ | refine T_seq ?_ | refine T_region ?_ | refine T_ret ?_ | refine E_then ?_ | refine E_thenR ?_
    | refine qv rfl (rr_build rfl hbl) rfl rfl ?_)
  refine TL_storeB (i := 0) (cs' := (rexC 3 c (.slice none 0 0)).toArray) rfl rfl rfl rfl rfl rfl ?_
  conv => arg 8; simp only [zA, zB, zC, zD, zE, zF, zG, zH, zI, rowS, ret, id_eq]
  repeat (first
    | refine qv rfl (qp rfl) rfl rfl ?_ | refine TL_nil ?_ | refine T_seq ?_ | refine T_region ?_ | refine T_ret ?_ | refine E_then ?_ | refine E_thenR ?_)
  exact E_retc1 (i := 0) rfl rfl rfl rfl fun w hm => hm.ret
/-- kids that were put into a list -/
def kidO (g : Nat) (l : List (List Value)) : Own := blkO g l.flatten.toArray 36
/-- what was put together can be read -/
theorem kids_rex {w : World} {g : Nat} {k : Int} {l : List (Int × C4 × Value × Rx)} (hk : kit.okI64 k) (h : (kidO g (l.map fun x => rexC x.1 x.2.1 x.2.2.1)).holds w) (hl : l.length ≤ 2) (hr : ∀ x ∈ l, RexIs (Low w) w (rexC x.1 x.2.1 x.2.2.1) x.2.2.2) :
    RexR (Low w) w (rexV k C4.zero (.slice (some ⟨g, 0, none⟩) l.length l.length)) (.mk k C4.zero (l.map fun x => x.2.2.2)) := by
  have hb : w.heap[g]? = some (.cells (l.map fun x => rexC x.1 x.2.1 x.2.2.1).flatten.toArray 36 (0, 0)) := h
  refine ⟨_, rfl, hk, some ⟨g, 0, none⟩, l.length, by show Value.slice _ l.length _ = _; rw [show (Rx.mk k C4.zero (l.map fun x => x.2.2.2)).kids.length = l.length from List.length_map ..], by rw [show (Rx.mk k C4.zero (l.map fun x => x.2.2.2)).kids.length = l.length from List.length_map ..]; exact Nat.le_refl _, by unfold maxLen; omega, fun _ => ⟨g, 0, rfl, (Array.getElem?_eq_some_iff.1 hb).1, fun i hi => ?_⟩⟩
  have hi' : i < l.length := by have : i < (l.map fun x => x.2.2.2).length := hi; simpa using this
  refine ⟨rexC l[i].1 l[i].2.1 l[i].2.2.1, ?_, fun j u hj => ?_⟩
  · have e : (Rx.mk k C4.zero (l.map fun x => x.2.2.2)).kids[i] = l[i].2.2.2 := by exact List.getElem_map (h := by simpa using hi') ..
    rw [e]
    exact hr l[i] (List.getElem_mem hi')
  · rw [cell_of_row w g _ _ _ _ hb, List.getElem?_toArray, Nat.zero_add]
    have hj6 : j < 6 := by have := (List.getElem?_eq_some_iff.1 hj).1; simpa [rexC, clsL] using this
    have := flatten_get (c := 6) (l.map fun x => rexC x.1 x.2.1 x.2.2.1) (fun x hx => by obtain ⟨y, _, rfl⟩ := List.mem_map.1 hx; rfl) i j (by simpa using hi') hj6
    show (l.map fun x => rexC x.1 x.2.1 x.2.2.1).flatten[i * 6 + j]? = some u
    rw [this, List.getElem_map]; exact hj
theorem rex_cs {F : Nat → Prop} {w : World} {vk : Value} {r : Rx} (h : RexR F w (rexV r.kind r.cls vk) r) : RexIs F w (rexC r.kind r.cls vk) r := by
  obtain ⟨k, c, kids⟩ := r
  obtain ⟨vk', e, h1, h2⟩ := h
  dsimp only [Rx.kind, Rx.cls, Rx.kids] at e h1 h2 ⊢
  have : vk = vk' := by simpa [rexV, rexC, clsL] using e
  subst this
  exact rex_iff.2 ⟨_, rfl, h1, h2⟩
theorem star_rex {w : World} {g : Nat} {r : Rx} {vk : Value} (h : (kidO g [rexC r.kind r.cls vk]).holds w) (hr : RexR (Low w) w (rexV r.kind r.cls vk) r) :
    RexR (Low w) w (rexV 6 C4.zero (.slice (some ⟨g, 0, none⟩) 1 1)) (.mk 6 C4.zero [r]) :=
  kids_rex (l := [(r.kind, r.cls, vk, r)]) ⟨by decide, by decide⟩ h (by show 1 ≤ 2; omega) fun x hx => by
    simp only [List.mem_cons, List.not_mem_nil, or_false] at hx
    subst hx
    exact rex_cs hr
theorem star_rexK {w : World} {g : Nat} {k : Int} {c : C4} {kids : List Rx} {vk : Value} (h : (kidO g [rexC k c vk]).holds w) (hr : RexR (Low w) w (rexV k c vk) (.mk k c kids)) :
    RexR (Low w) w (rexV 6 C4.zero (.slice (some ⟨g, 0, none⟩) 1 1)) (.mk 6 C4.zero [.mk k c kids]) := star_rex (r := .mk k c kids) h hr
theorem leaf_rex {F : Nat → Prop} {w : World} {k : Int} {c : C4} (hk : kit.okI64 k) : RexR F w (rexV k c (.slice none 0 0)) (.mk k c []) := ⟨_, rfl, hk, SlF.nil⟩
end Go.Proofs.YtndbaalenclgaaaDoor.eng

/- RexP -/
namespace Go.Proofs.YtndbaalenclgaaaDoor.eng
open Go.RowKit kit mix classL rexL classSets
theorem emb_inj : ∀ {a b : Re}, emb a = emb b → a = b := by
  intro a
  induction a with
  | none => intro b h; cases b <;> simp [emb] at h ⊢
  | empty => intro b h; cases b <;> simp [emb] at h ⊢
  | byte c => intro b h; cases b <;> simp [emb] at h ⊢; exact h
  | cat x y ihx ihy =>
    intro b h
    cases b <;> simp [emb] at h ⊢
    exact ⟨ihx h.1, ihy h.2⟩
  | alt x y ihx ihy =>
    intro b h
    cases b <;> simp [emb] at h ⊢
    exact ⟨ihx h.1, ihy h.2⟩
  | star x ih =>
    intro b h
    cases b <;> simp [emb] at h ⊢
    exact ih h
def LangX (r : Rx) (s : List UInt8) : Prop := ∃ e, r = emb e ∧ Lang e s
theorem langX (e : Re) (s : List UInt8) : LangX (emb e) s ↔ Lang e s := ⟨fun ⟨e', h, h2⟩ => by rw [emb_inj h]; exact h2, fun h => ⟨e, rfl, h⟩⟩
open Classical in
/-- what Matches says -/
noncomputable def matF (r : Rx) (s : List UInt8) : Bool × Int := if chkX r ≠ 0 then (false, chkX r) else if 200 < s.length then (false, 2) else (decide (LangX r s), 0)
theorem mat_bad1 {r : Rx} {s : List UInt8} (h : chkX r ≠ 0) : matF r s = (false, chkX r) := by unfold matF; rw [if_pos h]
theorem mat_bad2 {r : Rx} {s : List UInt8} (h : chkX r = 0) (h2 : 200 < s.length) : matF r s = (false, 2) := by unfold matF; rw [if_neg (by simpa using h), if_pos h2]
theorem mat_ok {r : Rx} {s : List UInt8} (h : chkX r = 0) (h2 : ¬ 200 < s.length) {b : Bool} (hb : b = true ↔ LangX r s) : matF r s = (b, 0) := by
  unfold matF
  rw [if_neg (by simpa using h), if_neg h2]
  congr 1
  apply Bool.eq_iff_iff.2
  rw [hb]; simp
theorem chkX_fit {r : Rx} (h : chkX r = 0) : ∃ e, r = emb e ∧ Fit e 1 0 := by
  obtain ⟨e, h1, h2, _⟩ := chk_fit _ r 1 0 (chk r 1 0).2 (Nat.le_refl _) (Prod.ext h rfl)
  exact ⟨e, h1, h2⟩
theorem fit_chkX {e : Re} (h : Fit e 1 0) : chkX (emb e) = 0 := by unfold chkX; rw [fit_chk e 1 0 h]
theorem mat_fit {e : Re} {s : List UInt8} (h : Fit e 1 0) (hs : s.length ≤ 200) : (matF (emb e) s).2 = 0 ∧ ((matF (emb e) s).1 = true ↔ Lang e s) := by
  unfold matF
  rw [if_neg (by simpa using fit_chkX h), if_neg (by omega)]
  refine ⟨rfl, ?_⟩
  rw [← langX]; simp
theorem build_spans (s : List UInt8) (g : Nat) (w : World) : (Instr.build 74 #[(0, str s), (1, .map (some g))]).run Tryd.prog w = .ok (.agg #[str s, .map (some g)]) w := by kernel_rfl
theorem wrapL8 {k : Nat} (h : k < 256) : IntKind.u8.wrap (k : Int) = (k : Int) := by
  rw [IntKind.wrap_u8]; omega
set_option maxRecDepth 100000 in
set_option maxHeartbeats 16000000 in
theorem matches_calls (v : Value) (r : Rx) (s : List UInt8) (w : World) (hT : TabW w) (hv : RexR (Low w) w v r) (hs : s.length ≤ 9223372036854775807) :
    Calls Tryd.prog 23 #[v, str s] w (Meets (ret (.tuple #[.bool (matF r s).1, .int .i64 (matF r s).2])) w) := by
  have hck := fun w' (hg : Gr w w') => rexCheck_calls v r w' (hv.gr hg)
  by_cases hc : chkX r = 0
  · obtain ⟨e, rfl, hfit⟩ := chkX_fit hc
    rw [hc] at hck
    rw [emb_eq] at hv
    obtain ⟨vk, rfl, hk64, hks⟩ := hv
    dsimp only [Rx.kind, Rx.cls, Rx.kids] at hk64 hks hck ⊢
    have hnum := fun gn w' B ho hm => number_calls w gn _ e (Nat.le_refl _) vk 0 w' B hk64 hks (by have := hfit.sz; omega) ho hm
    obtain ⟨bk, ck, rfl, -⟩ := hks
    rw [List.length_map] at hck hnum ⊢
    by_cases hl : 200 < s.length
    · rw [mat_bad2 hc hl]
      refine enter (args := [rexV e.kind e.cls (.slice bk e.kids.length ck), str s]) (n := 29) Tryd.func23 rfl rfl rfl ?_
      refine T_seq (T_region (TL_box rfl rfl rfl fun g2 => ?_))
      repeat (first
        | refine qv rfl (qp rfl) rfl rfl ?_ | refine TL_nil ?_ | refine T_seq ?_ | refine T_region ?_ | refine qcT rfl ?_ | refine qcF rfl ?_ | refine T_skip ?_
        | refine T_ret ?_ | refine E_then ?_ | refine E_thenR ?_ | refine qv rfl (rr_loadB (i := 0) TyC.ty rfl rfl rfl) rfl rfl ?_
        | refine qv rfl (rr_strlen Und.eq rfl) rfl rfl ?_ | refine qv rfl (rr_gtr rfl rfl (qT (by omega))) rfl rfl ?_
        | refine qv rfl (rr_gtr rfl rfl (qF (by omega))) rfl rfl ?_ | refine qv rfl (rr_neq rfl rfl (qT (by omega))) rfl rfl ?_
        | refine qv rfl (rr_neq rfl rfl (qF (by omega))) rfl rfl ?_)
      refine TL_call (he1 EntersC.en rfl rfl) (fun w hm => hck _ hm.below) rfl rfl rfl ?_
      intro _ _
      repeat (first
        | refine qv rfl (qp rfl) rfl rfl ?_ | refine TL_nil ?_ | refine T_seq ?_ | refine T_region ?_ | refine qcT rfl ?_ | refine qcF rfl ?_ | refine T_skip ?_
        | refine T_ret ?_ | refine E_then ?_ | refine E_thenR ?_ | refine qv rfl (rr_strlen Und.eq rfl) rfl rfl ?_
        | refine qv rfl (rr_strlen Und.eq rfl) rfl rfl ?_ | refine qv rfl (rr_gtr rfl rfl (qT (by omega))) rfl rfl ?_
        | refine qv rfl (rr_gtr rfl rfl (qF (by omega))) rfl rfl ?_ | refine qv rfl (rr_neq rfl rfl (qT (by omega))) rfl rfl ?_
        | refine qv rfl (rr_neq rfl rfl (qF (by omega))) rfl rfl ?_)
      exact E_ret2 rfl rfl rfl fun w hm => hm.ret
    · have hsz := hfit.sz
      have hends := fun gs gm F w1 v' hn => ends_calls w hT s (by omega) (nodeAt e 0) gs gm F w1 _ e (Nat.le_refl _) 0 (numC e 0 (.slice bk e.kids.length ck) v') hn (fun i _ _ => rfl) (by omega)
      have hbs := build_spans s
      have hh := fun c w => has_calls c s.length (by omega) w
      clear hk64
      refine enter (args := [rexV e.kind e.cls (.slice bk e.kids.length ck), str s]) (n := 29) Tryd.func23 rfl rfl rfl ?_
      refine T_seq (T_region (TL_box rfl rfl rfl fun g2 => ?_))
      repeat (first
        | refine qv rfl (qp rfl) rfl rfl ?_ | refine TL_nil ?_ | refine T_seq ?_ | refine T_region ?_ | refine qcT rfl ?_ | refine qcF rfl ?_ | refine T_skip ?_
        | refine T_ret ?_ | refine E_then ?_ | refine E_thenR ?_ | refine qv rfl (rr_loadB (i := 0) TyC.ty rfl rfl rfl) rfl rfl ?_
        | refine qv rfl (rr_strlen Und.eq rfl) rfl rfl ?_ | refine qv rfl (rr_gtr rfl rfl (qT (by omega))) rfl rfl ?_
        | refine qv rfl (rr_gtr rfl rfl (qF (by omega))) rfl rfl ?_ | refine qv rfl (rr_neq rfl rfl (qT (by omega))) rfl rfl ?_
        | refine qv rfl (rr_neq rfl rfl (qF (by omega))) rfl rfl ?_)
      refine TL_call (he1 EntersC.en rfl rfl) (fun w hm => hck _ hm.below) rfl rfl rfl ?_
      intro _ _
      repeat (first
        | refine qv rfl (qp rfl) rfl rfl ?_ | refine TL_nil ?_ | refine T_seq ?_ | refine T_region ?_ | refine qcT rfl ?_ | refine qcF rfl ?_ | refine T_skip ?_
        | refine T_ret ?_ | refine E_then ?_ | refine E_thenR ?_ | refine qv rfl (rr_strlen Und.eq rfl) rfl rfl ?_
        | refine qv rfl (rr_strlen Und.eq rfl) rfl rfl ?_ | refine qv rfl (rr_gtr rfl rfl (qT (by omega))) rfl rfl ?_
        | refine qv rfl (rr_gtr rfl rfl (qF (by omega))) rfl rfl ?_ | refine qv rfl (rr_neq rfl rfl (qT (by omega))) rfl rfl ?_
        | refine qv rfl (rr_neq rfl rfl (qF (by omega))) rfl rfl ?_)
      refine TL_new rfl fun g7 => ?_
      conv => arg 8; simp only [zA, zB, zC, zD, zE, zF, zG, zH, zI, rowS, ret, id_eq]
      refine TL_store1 (i := 1) rfl rfl rfl rfl rfl rfl ?_
      conv => arg 8; simp only [zA, zB, zC, zD, zE, zF, zG, zH, zI, rowS, ret, id_eq]
      repeat (first
        | refine qv rfl (qp rfl) rfl rfl ?_ | refine TL_nil ?_ | refine T_seq ?_ | refine T_region ?_ | refine qcT rfl ?_ | refine qcF rfl ?_ | refine T_skip ?_
        | refine T_ret ?_ | refine E_then ?_ | refine E_thenR ?_ | refine qv rfl (rr_strlen Und.eq rfl) rfl rfl ?_
        | refine qv rfl (rr_gtr rfl rfl (qT (by omega))) rfl rfl ?_ | refine qv rfl (rr_gtr rfl rfl (qF (by omega))) rfl rfl ?_
        | refine qv rfl (rr_neq rfl rfl (qT (by omega))) rfl rfl ?_ | refine qv rfl (rr_neq rfl rfl (qF (by omega))) rfl rfl ?_)
      refine TL_map atK rfl fun gm => ?_
      conv => arg 8; simp only [zA, zB, zC, zD, zE, zF, zG, zH, zI, rowS, ret, id_eq]
      repeat (first
        | refine qv rfl (qp rfl) rfl rfl ?_ | refine TL_nil ?_ | refine T_seq ?_ | refine T_region ?_ | refine qcT rfl ?_ | refine qcF rfl ?_ | refine T_skip ?_
        | refine T_ret ?_ | refine E_then ?_ | refine E_thenR ?_ | refine qv rfl (rr_build rfl (hbs gm)) rfl rfl ?_
        | refine qv rfl (rr_strlen Und.eq rfl) rfl rfl ?_ | refine qv rfl (rr_gtr rfl rfl (qT (by omega))) rfl rfl ?_
        | refine qv rfl (rr_gtr rfl rfl (qF (by omega))) rfl rfl ?_ | refine qv rfl (rr_neq rfl rfl (qT (by omega))) rfl rfl ?_
        | refine qv rfl (rr_neq rfl rfl (qF (by omega))) rfl rfl ?_)
      refine TL_box rfl rfl rfl fun gs => ?_
      conv => arg 8; simp only [zA, zB, zC, zD, zE, zF, zG, zH, zI, rowS, ret, id_eq]
      repeat (first
        | refine qv rfl (qp rfl) rfl rfl ?_ | refine TL_nil ?_ | refine T_seq ?_ | refine T_region ?_ | refine qcT rfl ?_ | refine qcF rfl ?_ | refine T_skip ?_
        | refine T_ret ?_ | refine E_then ?_ | refine E_thenR ?_ | refine qv rfl (rr_loadB (i := 0) TyC.ty rfl rfl rfl) rfl rfl ?_
        | refine qv rfl (rr_strlen Und.eq rfl) rfl rfl ?_ | refine qv rfl (rr_gtr rfl rfl (qT (by omega))) rfl rfl ?_
        | refine qv rfl (rr_gtr rfl rfl (qF (by omega))) rfl rfl ?_ | refine qv rfl (rr_neq rfl rfl (qT (by omega))) rfl rfl ?_
        | refine qv rfl (rr_neq rfl rfl (qF (by omega))) rfl rfl ?_)
      refine TL_callB [1] [0, 2, 3] (by decide) rfl rfl (he2 EntersC.en rfl rfl rfl) (fun w hm hb => hnum g7 w _ ((Old.self _).on hm (by intro o ho; simp at ho ⊢; simp [ho])) hb) rfl rfl rfl ?_
      rintro ⟨v', F⟩ _
      conv => arg 8; simp only [zA, zB, zC, zD, zE, zF, zG, zH, zI, rowS, ret, id_eq, numSp]
      refine TL_freeze (i := 4) F rfl (fun k hk => .inr hk) fun w1 hw1 => ?_
      conv => arg 8; simp only [zA, zB, zC, zD, zE, zF, zG, zH, zI, rowS, ret, id_eq]
      have hnum' : NumIs F w1 (numC e 0 (.slice bk e.kids.length ck) v') (e, 0) := by
        obtain ⟨⟨v'', hv', h5⟩, _⟩ := hw1
        simp only [List.cons.injEq, and_true] at hv'
        subst hv'
        exact num_iff.2 ⟨_, _, rfl, rfl, h5⟩
      refine TL_callB [2, 1, 4] [0, 3] (by decide) rfl rfl (he3 EntersC.en rfl rfl rfl rfl) (fun w hm hb => hends gs gm F w1 v' hnum' 0 (fun _ => none) 0 w _ (Nat.zero_le _) (mok0 s _) ((Old.self _).on hm (by intro o ho; simp [spO, mO] at ho ⊢; rcases ho with h | h | h <;> simp [h])) hb) rfl rfl rfl ?_
      rintro ⟨c, m', n'⟩ ⟨hc', _⟩
      dsimp only [endSp]
      refine TL_pick [] (by decide) rfl ?_
      have hres : matF (emb e) s = (c.mem s.length, 0) := by
        refine mat_ok hc hl ?_
        rw [langX, hc' s.length (by omega)]
        unfold EndP
        rw [seg_all]
        simp
      rw [hres]
      repeat (first
        | refine qv rfl (qp rfl) rfl rfl ?_ | refine TL_nil ?_ | refine T_seq ?_ | refine T_region ?_ | refine qcT rfl ?_ | refine qcF rfl ?_ | refine T_skip ?_
        | refine T_ret ?_ | refine E_then ?_ | refine E_thenR ?_ | refine qv rfl (rr_strlen Und.eq rfl) rfl rfl ?_
        | refine qv rfl (rr_conv Und.eq Und.eq rfl (wrapL8 (by omega))) rfl rfl ?_ | refine qv rfl (rr_strlen Und.eq rfl) rfl rfl ?_
        | refine qv rfl (rr_gtr rfl rfl (qT (by omega))) rfl rfl ?_ | refine qv rfl (rr_gtr rfl rfl (qF (by omega))) rfl rfl ?_
        | refine qv rfl (rr_neq rfl rfl (qT (by omega))) rfl rfl ?_ | refine qv rfl (rr_neq rfl rfl (qF (by omega))) rfl rfl ?_)
      refine TL_call (he2 EntersC.en rfl rfl rfl) (fun w hm => hh c _) rfl rfl rfl ?_
      intro _ _
      repeat (first
        | refine qv rfl (qp rfl) rfl rfl ?_ | refine TL_nil ?_ | refine T_seq ?_ | refine T_region ?_ | refine qcT rfl ?_ | refine qcF rfl ?_ | refine T_skip ?_
        | refine T_ret ?_ | refine E_then ?_ | refine E_thenR ?_ | refine qv rfl (rr_strlen Und.eq rfl) rfl rfl ?_
        | refine qv rfl (rr_gtr rfl rfl (qT (by omega))) rfl rfl ?_ | refine qv rfl (rr_gtr rfl rfl (qF (by omega))) rfl rfl ?_
        | refine qv rfl (rr_neq rfl rfl (qT (by omega))) rfl rfl ?_ | refine qv rfl (rr_neq rfl rfl (qF (by omega))) rfl rfl ?_)
      exact E_ret2 rfl rfl rfl fun w hm => hm.ret
  · rw [mat_bad1 hc]
    obtain ⟨vk, rfl, _, hks⟩ := hv
    obtain ⟨bk, ck, rfl, -⟩ := hks
    generalize r.kids.length = m at *
    generalize chkX r = z at *
    refine enter (args := [rexV r.kind r.cls (.slice bk m ck), str s]) (n := 29) Tryd.func23 rfl rfl rfl ?_
    refine T_seq (T_region (TL_box rfl rfl rfl fun g2 => ?_))
    repeat (first
      | refine qv rfl (qp rfl) rfl rfl ?_ | refine TL_nil ?_ | refine T_seq ?_ | refine T_region ?_ | refine qcT rfl ?_ | refine qcF rfl ?_ | refine T_skip ?_
      | refine T_ret ?_ | refine E_then ?_ | refine E_thenR ?_ | refine qv rfl (rr_loadB (i := 0) TyC.ty rfl rfl rfl) rfl rfl ?_
      | refine qv rfl (rr_strlen Und.eq rfl) rfl rfl ?_ | refine qv rfl (rr_gtr rfl rfl (qT (by omega))) rfl rfl ?_
      | refine qv rfl (rr_gtr rfl rfl (qF (by omega))) rfl rfl ?_ | refine qv rfl (rr_neq rfl rfl (qT (by omega))) rfl rfl ?_
      | refine qv rfl (rr_neq rfl rfl (qF (by omega))) rfl rfl ?_)
    refine TL_call (he1 EntersC.en rfl rfl) (fun w hm => hck _ hm.below) rfl rfl rfl ?_
    intro _ _
    repeat (first
      | refine qv rfl (qp rfl) rfl rfl ?_ | refine TL_nil ?_ | refine T_seq ?_ | refine T_region ?_ | refine qcT rfl ?_ | refine qcF rfl ?_ | refine T_skip ?_
      | refine T_ret ?_ | refine E_then ?_ | refine E_thenR ?_ | refine qv rfl (rr_neq (b := true) rfl rfl (decide_eq_true hc)) rfl rfl ?_
      | refine qv rfl (rr_strlen Und.eq rfl) rfl rfl ?_ | refine qv rfl (rr_gtr rfl rfl (qT (by omega))) rfl rfl ?_
      | refine qv rfl (rr_gtr rfl rfl (qF (by omega))) rfl rfl ?_ | refine qv rfl (rr_neq rfl rfl (qT (by omega))) rfl rfl ?_
      | refine qv rfl (rr_neq rfl rfl (qF (by omega))) rfl rfl ?_)
    exact E_ret2 rfl rfl rfl fun w hm => hm.ret
/-- what is says -/
noncomputable def isF (r : Rx) (s : List UInt8) : Bool × Bool := ((matF r s).1, decide ((matF r s).2 ≠ 0))
theorem is_calls (v : Value) (r : Rx) (s : List UInt8) (w : World) (hT : TabW w) (hv : RexR (Low w) w v r) (hs : s.length ≤ 9223372036854775807) :
    Calls Tryd.prog 16 #[v, str s] w (Meets (ret (.tuple #[.bool (isF r s).1, .bool (isF r s).2])) w) := by
  have hM := fun w' (hg : Gr w w') hT' => matches_calls v r s w' hT' (hv.gr hg) hs
  obtain ⟨vk, rfl, _, hks⟩ := hv
  obtain ⟨bk, ck, rfl, -⟩ := hks
  unfold isF
  generalize matF r s = z at *
  obtain ⟨b, e⟩ := z
  dsimp only at hM ⊢
  generalize r.kids.length = m at *
  refine enter (args := [rexV r.kind r.cls (.slice bk m ck), str s]) (n := 17) Tryd.func16 rfl rfl rfl ?_
  refine T_seq (T_region (TL_box rfl rfl rfl fun g2 => ?_))
  repeat (first
    | refine qv rfl (qp rfl) rfl rfl ?_ | refine TL_nil ?_ | refine T_seq ?_ | refine T_region ?_ | refine T_ret ?_ | refine E_then ?_ | refine E_thenR ?_
    | refine qv rfl (rr_loadB (i := 0) TyC.ty rfl rfl rfl) rfl rfl ?_ | refine qv rfl (rr_neq rfl rfl (qT (by omega))) rfl rfl ?_
    | refine qv rfl (rr_neq rfl rfl (qF (by omega))) rfl rfl ?_)
  refine TL_call (he2 EntersC.en rfl rfl rfl) (fun w hm => hM _ hm.below (hT.up hm)) rfl rfl rfl ?_
  intro _ _
  repeat (first
    | refine qv rfl (qp rfl) rfl rfl ?_ | refine TL_nil ?_ | refine T_seq ?_ | refine T_region ?_ | refine T_ret ?_ | refine E_then ?_ | refine E_thenR ?_
    | refine qv rfl (rr_neq (b := decide (e ≠ 0)) rfl rfl rfl) rfl rfl ?_ | refine qv rfl (rr_neq rfl rfl (qT (by omega))) rfl rfl ?_
    | refine qv rfl (rr_neq rfl rfl (qF (by omega))) rfl rfl ?_)
  exact E_ret2 rfl rfl rfl fun w hm => hm.ret
end Go.Proofs.YtndbaalenclgaaaDoor.eng

/- RexW -/
namespace Go.Proofs.YtndbaalenclgaaaDoor.eng
open Go.RowKit kit mix classL rexL classSets
theorem is_fit {e : Re} {s : List UInt8} (h : Fit e 1 0) (hs : s.length ≤ 200) {b : Bool} (hb : b = true ↔ Lang e s) : isF (emb e) s = (b, false) := by
  obtain ⟨h1, h2⟩ := mat_fit h hs
  unfold isF
  rw [h1]
  refine Prod.ext (Bool.eq_iff_iff.2 ?_) rfl
  show (matF (emb e) s).1 = true ↔ _
  rw [h2, hb]
end Go.Proofs.YtndbaalenclgaaaDoor.eng

/- SortC -/
namespace Go.Proofs.YtndbaalenclgaaaDoor.eng
open Go.Shelf
def lays189_ren : Go.Shelf.Ren := ⟨fun | 189 => 20 | 125 => 26 | 257 => 25 | 128 => 40 | 129 => 41 | 294 => 31 | 295 => 32 | 296 => 33 | 297 => 34 | 298 => 35 | 299 => 36 | 216 => 37 | 300 => 38 | 301 => 39 | 328 => 46 | 329 => 47 | 330 => 48 | 331 => 49 | 332 => 50 | 215 => 51 | 343 => 53 | n => n, fun | 28 => 24 | 3 => 3 | 46 => 62 | 0 => 0 | 51 => 90 | 53 => 32 | 4 => 4 | 183 => 82 | 182 => 81 | 131 => 87 | 5 => 5 | 9 => 9 | 218 => 98 | 222 => 58 | 228 => 106 | 229 => 107 | n => n, fun | n => n⟩
theorem lays189 : Go.Proofs.Lays.n189 Tryd.prog lays189_ren := {
  mixed := by kernel_rfl
  f125 := Tryd.func26.trans (congrArg some (by kernel_rfl))
  f128 := Tryd.func40.trans (congrArg some (by kernel_rfl))
  f129 := Tryd.func41.trans (congrArg some (by kernel_rfl))
  f189 := Tryd.func20.trans (congrArg some (by kernel_rfl))
  f215 := Tryd.func51.trans (congrArg some (by kernel_rfl))
  f216 := Tryd.func37.trans (congrArg some (by kernel_rfl))
  f257 := Tryd.func25.trans (congrArg some (by kernel_rfl))
  f294 := Tryd.func31.trans (congrArg some (by kernel_rfl))
  f295 := Tryd.func32.trans (congrArg some (by kernel_rfl))
  f296 := Tryd.func33.trans (congrArg some (by kernel_rfl))
  f297 := Tryd.func34.trans (congrArg some (by kernel_rfl))
  f298 := Tryd.func35.trans (congrArg some (by kernel_rfl))
  f299 := Tryd.func36.trans (congrArg some (by kernel_rfl))
  f300 := Tryd.func38.trans (congrArg some (by kernel_rfl))
  f301 := Tryd.func39.trans (congrArg some (by kernel_rfl))
  f328 := Tryd.func46.trans (congrArg some (by kernel_rfl))
  f329 := Tryd.func47.trans (congrArg some (by kernel_rfl))
  f330 := Tryd.func48.trans (congrArg some (by kernel_rfl))
  f331 := Tryd.func49.trans (congrArg some (by kernel_rfl))
  f332 := Tryd.func50.trans (congrArg some (by kernel_rfl))
  f343 := Tryd.func53.trans (congrArg some (by kernel_rfl))
  t0 := Tryd.underlying0
  a0 := Tryd.isAgg0
  z0 := Tryd.sizeOf0
  v0 := Tryd.zeroValue0
  t3 := Tryd.underlying3
  a3 := Tryd.isAgg3
  z3 := Tryd.sizeOf3
  v3 := Tryd.zeroValue3
  t4 := Tryd.underlying4
  a4 := Tryd.isAgg4
  z4 := Tryd.sizeOf4
  v4 := Tryd.zeroValue4
  t5 := Tryd.underlying5
  a5 := Tryd.isAgg5
  z5 := Tryd.sizeOf5
  v5 := Tryd.zeroValue5
  t9 := Tryd.underlying9
  a9 := Tryd.isAgg9
  z9 := Tryd.sizeOf9
  v9 := Tryd.zeroValue9
  t28 := Tryd.underlying24
  a28 := Tryd.isAgg24
  z28 := Tryd.sizeOf24
  v28 := Tryd.zeroValue24
  t46 := Tryd.underlying62
  a46 := Tryd.isAgg62
  z46 := Tryd.sizeOf62
  v46 := Tryd.zeroValue62
  t51 := Tryd.underlying90
  a51 := Tryd.isAgg90
  z51 := Tryd.sizeOf90
  v51 := Tryd.zeroValue90
  t53 := Tryd.underlying32
  a53 := Tryd.isAgg32
  z53 := Tryd.sizeOf32
  v53 := Tryd.zeroValue32
  t131 := Tryd.underlying87
  a131 := Tryd.isAgg87
  z131 := Tryd.sizeOf87
  v131 := Tryd.zeroValue87
  t182 := Tryd.underlying81
  a182 := Tryd.isAgg81
  z182 := Tryd.sizeOf81
  v182 := Tryd.zeroValue81
  t183 := Tryd.underlying82
  a183 := Tryd.isAgg82
  z183 := Tryd.sizeOf82
  v183 := Tryd.zeroValue82
  t218 := Tryd.underlying98
  a218 := Tryd.isAgg98
  z218 := Tryd.sizeOf98
  v218 := Tryd.zeroValue98
  t222 := Tryd.underlying58
  a222 := Tryd.isAgg58
  z222 := Tryd.sizeOf58
  v222 := Tryd.zeroValue58
  t228 := Tryd.underlying106
  a228 := Tryd.isAgg106
  z228 := Tryd.sizeOf106
  v228 := Tryd.zeroValue106
  t229 := Tryd.underlying107
  a229 := Tryd.isAgg107
  z229 := Tryd.sizeOf107
  v229 := Tryd.zeroValue107 }
open Go.Sort Go.RowKit in
theorem slices_Sort_int (blk off cap : Nat) (zs : List Int) (w : World) (hH : Holds (Value.int .i64) w blk off zs.toArray) (hblk : blk < w.heap.size) (hsz : zs.length < 4611686018427387904) :
    Calls Tryd.prog 20 #[.slice (some ⟨blk, off, none⟩) zs.length cap] w fun e w' =>
      e = .returned (.tuple #[]) ∧ ∃ n os, w' = grow (putRow (Value.int .i64) (Sort.ahead w n) blk off (zs.mergeSort fun x y => decide (x ≤ y)).toArray) os := Any.slices_Sort_int lays189 blk off cap zs w hH hblk hsz
def laysNm220_ren : Go.Shelf.Ren := ⟨fun | 20 => 21 | n => n, fun | 22 => 24 | 3 => 3 | 4 => 4 | 0 => 0 | n => n, fun | n => n⟩
theorem laysNm220 : Go.Proofs.Lays2.n20 Tryd.prog laysNm220_ren := {
  mixed := by kernel_rfl
  f20 := Tryd.func21.trans (congrArg some (by kernel_rfl))
  t0 := Tryd.underlying0
  a0 := Tryd.isAgg0
  z0 := Tryd.sizeOf0
  v0 := Tryd.zeroValue0
  t3 := Tryd.underlying3
  a3 := Tryd.isAgg3
  z3 := Tryd.sizeOf3
  v3 := Tryd.zeroValue3
  t4 := Tryd.underlying4
  a4 := Tryd.isAgg4
  z4 := Tryd.sizeOf4
  v4 := Tryd.zeroValue4
  t22 := Tryd.underlying24
  a22 := Tryd.isAgg24
  z22 := Tryd.sizeOf24
  v22 := Tryd.zeroValue24
  i3 := by kernel_rfl }
open Go.RowKit Go.Lib Go.Sort in
theorem slices_Compact_int (blk off cap : Nat) (zs : List Int) (w : World) (hH : Holds (Value.int .i64) w blk off zs.toArray) (hsz : zs.length ≤ 9223372036854775807) (hcap : zs.length ≤ cap) :
    Calls Tryd.prog 21 #[.slice (some ⟨blk, off, none⟩) zs.length cap] w fun e w' => e = .returned (.slice (some ⟨blk, off, none⟩) (Lib.compact zs).length cap) ∧ ∃ q, w' = putRow (Value.int .i64) (Sort.ahead w q) blk off (Lib.compact zs ++ List.replicate (zs.length - (Lib.compact zs).length) 0).toArray := Any.slices_Compact_int laysNm220 blk off cap zs w hH hsz hcap
open Go.RowKit Go.Lib Go.Sort in
theorem slices_Compact_int_empty (a : Option Addr) (cap : Nat) (w : World) :
    Calls Tryd.prog 21 #[.slice a 0 cap] w fun e w' => e = .returned (.slice a 0 cap) ∧ w' = w := Any.slices_Compact_int_empty laysNm220 a cap w
open Go.RowKit Go.Sort in
theorem slices_Sort_int_none (p : Option Addr) (cap : Nat) (w : World) :
    Calls Tryd.prog 20 #[.slice p 0 cap] w fun e w' => e = .returned (.tuple #[]) ∧ w' = w := Any.slices_Sort_int_none lays189 p cap w
end Go.Proofs.YtndbaalenclgaaaDoor.eng

/- SortI -/
namespace Go.Proofs.YtndbaalenclgaaaDoor.eng
open Go.RowKit kit mix Go.Sort
theorem put_block (w : World) (n g : Nat) (d : Array Int) (os : Array Obj) {k : Nat} (hk : k < w.heap.size) (hg : k ≠ g) : (grow (putRow (Value.int .i64) (Go.Sort.ahead w n) g 0 d) os).heap[k]? = w.heap[k]? := by
  rw [heap_grow_old _ _ (by rw [size_putRow]; exact hk)]
  show (w.heap.modify g _)[k]? = w.heap[k]?
  rw [Array.getElem?_modify, if_neg (fun h => hg h.symm)]
theorem put_mem {B : Base} {w : World} {e : TypeId} {g cap m : Nat} {zs : List Int} (hm : Mem B [rowO e 1 (.slice (some ⟨g, 0, none⟩) m cap) m (zs.map (Value.int .i64))] w) (d : Array Int) (hd : d.size = m) (m' : Nat) (h' : m' ≤ m) (n : Nat) (os : Array Obj) :
    Mem B [rowO e 1 (.slice (some ⟨g, 0, none⟩) m' cap) m' ((d.toList.take m').map (Value.int .i64))] (grow (putRow (Value.int .i64) (Go.Sort.ahead w n) g 0 d) os) := by
  have ho : w.ownsRow 0 e 1 (.slice (some ⟨g, 0, none⟩) m cap) m (zs.map (Value.int .i64)) := hm.get (i := 0) rfl
  obtain ⟨hl, hr⟩ := ho
  rcases hr with ⟨h, _⟩ | ⟨g2, cap2, cur, hv, _, hg, hc, hx, hs, ht⟩
  · cases h
  cases hv
  have hmay : B.may g := (hm.owns.all 0 _ rfl).2 g (.inl rfl)
  have hgw : g < w.heap.size := (Array.getElem?_eq_some_iff.1 hg).1
  have hheap : (grow (putRow (Value.int .i64) (Go.Sort.ahead w n) g 0 d) os).heap[g]? = some (.cells (putCells (Value.int .i64) 0 d cur) e (0, 0)) := by
    rw [heap_grow_old _ _ (by rw [size_putRow]; exact hgw)]
    show (w.heap.modify g (onCells (putCells (Value.int .i64) 0 d)))[g]? = _
    rw [Array.getElem?_modify, if_pos rfl, hg]; rfl
  refine ⟨⟨hm.low.os, hm.low.tape, hm.low.output, ?_, fun k hk hx => ?_⟩, OwnsP.one ⟨?_, .inr ⟨g, cap, _, rfl, Nat.zero_le _, hheap, by omega, hx, ?_, ?_⟩⟩ fun k hk => ?_⟩
  · rw [size_grow, size_putRow]; exact Nat.le_trans hm.low.size (Nat.le_add_right _ _)
  · have hkg : k ≠ g := fun e => by
      subst e
      rcases hmay with h | h
      · omega
      · exact hx h
    rw [put_block w n g d os (Nat.lt_of_lt_of_le hk hm.low.size) hkg]
    exact hm.low.block k hk hx
  · rw [List.length_map, List.length_take, Array.length_toList, hd]; omega
  · unfold putCells; rw [Array.size_mapIdx]; exact hs
  · apply List.ext_getElem?
    intro j
    rw [Nat.mul_one, List.getElem?_take]
    by_cases hj : j < m'
    · have hjc : j < cur.size := by omega
      rw [if_pos hj, List.getElem?_map, List.getElem?_take, if_pos hj, Array.getElem?_toList, Array.getElem?_toList]
      unfold putCells
      rw [Array.getElem?_mapIdx, Array.getElem?_eq_getElem hjc, Option.map_some, if_pos ⟨Nat.zero_le _, by omega⟩, Nat.sub_zero, getElem!_pos d j (by omega), Array.getElem?_eq_getElem (by omega : j < d.size)]
      rfl
    · rw [if_neg hj, List.getElem?_map, List.getElem?_take, if_neg hj]; rfl
  · rcases hk with h | h
    · simp only [rowO, Value.ownBlock, Option.some.injEq] at h; subst h; exact hmay
    · exact h.elim
theorem row_holds {w : World} {e : TypeId} {g cap m : Nat} {zs : List Int} (ho : w.ownsRow 0 e 1 (.slice (some ⟨g, 0, none⟩) m cap) m (zs.map (Value.int .i64))) : Holds (Value.int .i64) w g 0 zs.toArray ∧ g < w.heap.size ∧ m = zs.length ∧ m ≤ cap := by
  obtain ⟨hl, hr⟩ := ho
  rcases hr with ⟨h, _⟩ | ⟨g2, cap2, cur, hv, _, hg, hc, hx, hs, ht⟩
  · cases h
  cases hv
  rw [List.length_map] at hl
  refine ⟨fun j hj => ?_, (Array.getElem?_eq_some_iff.1 hg).1, by omega, hc⟩
  have hj' : j < zs.length := by simpa using hj
  have hcj : cur[j]? = some (.int .i64 zs[j]) := by
    have := congrArg (fun l => l[j]?) ht
    rw [Nat.mul_one, List.getElem?_take, if_pos (by omega), Array.getElem?_toList, List.getElem?_map, List.getElem?_eq_getElem hj'] at this
    exact this
  refine ⟨?_, ?_⟩
  · rw [cell_of_row w g (0 + j) _ _ _ hg, Nat.zero_add, hcj, getElem!_pos zs.toArray j hj]; rfl
  · unfold World.frozen?
    rw [hg]
    simp
def sortL (l : List Int) : List Int := l.mergeSort fun x y => decide (x ≤ y)
theorem sortI_calls (v : Value) (l : List Int) (w : World) (B : Base) (hm : Mem B [rowO 3 1 v l.length (l.map (Value.int .i64))] w) (hl : l.length < 4611686018427387904) :
    Calls Tryd.prog 20 #[v] w (MeetsB ⟨fun (_ : Unit) => True, fun _ => .tuple #[], fun _ => [rowO 3 1 v l.length ((sortL l).map (Value.int .i64))]⟩ B) := by
  have ho : w.ownsRow 0 3 1 v l.length (l.map (Value.int .i64)) := hm.get (i := 0) rfl
  have ho2 := ho
  rcases ho.2 with ⟨rfl, h0⟩ | ⟨g, cap, cur, rfl, _, hg, hc, hx, hs, ht⟩
  · refine (slices_Sort_int_none none 0 w).mono fun e w' ⟨he, hw⟩ => ⟨(), trivial, he, ?_⟩
    obtain rfl : l = [] := List.length_eq_zero_iff.1 h0
    rw [hw]; exact (by simpa [sortL] using hm)
  · obtain ⟨h1, h2, h3, h4⟩ := row_holds ho2
    refine (slices_Sort_int g 0 cap l w h1 h2 hl).mono fun e w' ⟨he, n, os, hw⟩ => ⟨(), trivial, he, ?_⟩
    have hlen : (sortL l).length = l.length := List.length_mergeSort _
    have := put_mem hm (sortL l).toArray (by simp [hlen]) l.length (Nat.le_refl _) n os
    rw [List.take_of_length_le (by simp [hlen])] at this
    rw [hw]; exact this
theorem compactI_calls (v : Value) (l : List Int) (w : World) (B : Base) (hm : Mem B [rowO 3 1 v l.length (l.map (Value.int .i64))] w) :
    Calls Tryd.prog 21 #[v] w (MeetsB ⟨fun (_ : Value) => True, fun v' => v', fun v' => [rowO 3 1 v' (Lib.compact l).length ((Lib.compact l).map (Value.int .i64))]⟩ B) := by
  have ho : w.ownsRow 0 3 1 v l.length (l.map (Value.int .i64)) := hm.get (i := 0) rfl
  have ho2 := ho
  rcases ho.2 with ⟨rfl, h0⟩ | ⟨g, cap, cur, rfl, _, hg, hc, hx, hs, ht⟩
  · refine (slices_Compact_int_empty none 0 w).mono fun e w' ⟨he, hw⟩ => ⟨.slice none 0 0, trivial, he, ?_⟩
    obtain rfl : l = [] := List.length_eq_zero_iff.1 h0
    rw [hw]; exact hm
  · obtain ⟨h1, h2, h3, h4⟩ := row_holds ho2
    refine (slices_Compact_int g 0 cap l w h1 (by unfold maxLen at hx; omega) (by omega)).mono fun e w' ⟨he, n, hw⟩ => ⟨.slice (some ⟨g, 0, none⟩) (Lib.compact l).length cap, trivial, he, ?_⟩
    have hle : (Lib.compact l).length ≤ l.length := Lib.compact_length_le l
    have := put_mem hm (Lib.compact l ++ List.replicate (l.length - (Lib.compact l).length) 0).toArray (by simp; omega) (Lib.compact l).length hle n #[]
    rw [grow_empty] at this
    simp only [List.toList_toArray, List.take_left] at this
    rw [hw]; exact this
end Go.Proofs.YtndbaalenclgaaaDoor.eng

/- PlacesL -/
namespace Go.Proofs.YtndbaalenclgaaaDoor.placesL
open classL rexL Go.Lib
def sortL (l : List Int) : List Int := l.mergeSort fun x y => decide (x ≤ y)
/-- the union of two rising lists -/
def uni (a b : List Int) : List Int := compact (sortL (a ++ b))
theorem sortL_sorted (l : List Int) : (sortL l).Pairwise (· ≤ ·) := by
  have := List.pairwise_mergeSort (le := fun x y : Int => decide (x ≤ y)) (fun a b c => by simp; omega) (fun a b => by simp; omega) l
  exact this.imp (by simp)
theorem compactUpTo_law {d : Array Int} (hs : ∀ i j, i ≤ j → j < d.size → d[i]! ≤ d[j]!) : ∀ m, m ≤ d.size → (compactUpTo d m).Pairwise (· < ·) ∧ (∀ x, x ∈ compactUpTo d m ↔ ∃ j, j < m ∧ d[j]! = x)
  | 0, _ => ⟨by unfold compactUpTo; simp, fun x => by unfold compactUpTo; simp⟩
  | m + 1, hm => by
    obtain ⟨h1, h2⟩ := compactUpTo_law hs m (by omega)
    rw [compactUpTo_succ]
    by_cases hk : keeps d m = true
    · rw [if_pos hk]
      have hk' : m = 0 ∨ d[m]! ≠ d[m - 1]! := by unfold keeps at hk; simpa using hk
      refine ⟨List.pairwise_append.2 ⟨h1, List.pairwise_singleton _ _, fun x hx y hy => ?_⟩, fun x => ?_⟩
      · rw [List.mem_singleton.1 hy]
        obtain ⟨j, hj, rfl⟩ := (h2 x).1 hx
        have a1 := hs j (m - 1) (by omega) (by omega)
        have a2 := hs (m - 1) m (by omega) (by omega)
        rcases hk' with h0 | h0
        · omega
        · omega
      · rw [List.mem_append, List.mem_singleton, h2]
        constructor
        · rintro (⟨j, hj, rfl⟩ | rfl)
          · exact ⟨j, by omega, rfl⟩
          · exact ⟨m, by omega, rfl⟩
        · rintro ⟨j, hj, rfl⟩
          by_cases c : j = m
          · subst c; exact .inr rfl
          · exact .inl ⟨j, by omega, rfl⟩
    · rw [if_neg hk, List.append_nil]
      refine ⟨h1, fun x => ?_⟩
      rw [h2]
      constructor
      · rintro ⟨j, hj, rfl⟩; exact ⟨j, by omega, rfl⟩
      · rintro ⟨j, hj, rfl⟩
        by_cases c : j = m
        · subst c
          have hk' : ¬ (j = 0 ∨ d[j]! ≠ d[j - 1]!) := by unfold keeps at hk; simpa using hk
          have e : d[j]! = d[j - 1]! := by
            rcases Classical.em (d[j]! = d[j - 1]!) with h | h
            · exact h
            · exact absurd (.inr h) hk'
          have : j ≠ 0 := fun h => hk' (.inl h)
          exact ⟨j - 1, by omega, e.symm⟩
        · exact ⟨j, by omega, rfl⟩
theorem sorted_get {l : List Int} (h : l.Pairwise (· ≤ ·)) : ∀ i j, i ≤ j → j < l.toArray.size → l.toArray[i]! ≤ l.toArray[j]! := by
  intro i j hij hj
  have hj' : j < l.length := by simpa using hj
  rw [getElem!_pos l.toArray i (by simp; omega), getElem!_pos l.toArray j hj]
  by_cases c : i = j
  · subst c; exact Int.le_refl _
  · exact List.pairwise_iff_getElem.1 h i j (by omega) hj' (by omega)
theorem uni_law (a b : List Int) : (uni a b).Pairwise (· < ·) ∧ ∀ x, x ∈ uni a b ↔ x ∈ a ∨ x ∈ b := by
  have hs := sorted_get (sortL_sorted (a ++ b))
  obtain ⟨h1, h2⟩ := compactUpTo_law hs (sortL (a ++ b)).length (by simp)
  refine ⟨h1, fun x => ?_⟩
  unfold uni compact
  rw [h2, ← List.mem_append, ← List.mem_mergeSort (l := a ++ b) (le := fun x y : Int => decide (x ≤ y))]
  show _ ↔ x ∈ sortL (a ++ b)
  rw [List.mem_iff_getElem]
  constructor
  · rintro ⟨j, hj, rfl⟩; exact ⟨j, hj, by rw [getElem!_pos _ j (by simpa using hj)]; rfl⟩
  · rintro ⟨j, hj, rfl⟩; exact ⟨j, hj, by rw [getElem!_pos _ j (by simpa using hj)]; rfl⟩
/-- places of n, rising -/
def Ris (n : Nat) (l : List Int) : Prop := l.Pairwise (· < ·) ∧ ∀ x ∈ l, 0 ≤ x ∧ x < n
theorem ris_len {n : Nat} {l : List Int} (h : Ris n l) : l.length ≤ n := by
  have key : ∀ (l : List Int) (lo : Int), l.Pairwise (· < ·) → (∀ x ∈ l, lo ≤ x ∧ x < n) → lo ≤ n → (l.length : Int) ≤ n - lo := by
    intro l
    induction l with
    | nil => intro lo _ _ h; show (0 : Int) ≤ _; omega
    | cons x r ih =>
      intro lo hp hx _
      rw [List.pairwise_cons] at hp
      have h1 := hx x (List.mem_cons_self ..)
      have := ih (x + 1) hp.2 (fun y hy => ⟨by have := hp.1 y hy; omega, (hx y (List.mem_cons_of_mem _ hy)).2⟩) (by omega)
      rw [List.length_cons]; omega
  have := key l 0 h.1 h.2 (by omega)
  omega
theorem ris_nil (n : Nat) : Ris n [] := ⟨List.Pairwise.nil, fun x h => by cases h⟩
theorem ris_mono {n m : Nat} {l : List Int} (h : Ris n l) (hm : n ≤ m) : Ris m l := ⟨h.1, fun x hx => by have := h.2 x hx; omega⟩
theorem ris_uni {n : Nat} {a b : List Int} (ha : ∀ x ∈ a, 0 ≤ x ∧ x < n) (hb : ∀ x ∈ b, 0 ≤ x ∧ x < n) : Ris n (uni a b) :=
  ⟨(uni_law a b).1, fun x hx => ((uni_law a b).2 x |>.1 hx).elim (ha x) (hb x)⟩
/-- rising lists of the same members are one list -/
theorem rising_ext : ∀ {a b : List Int}, a.Pairwise (· < ·) → b.Pairwise (· < ·) → (∀ x, x ∈ a ↔ x ∈ b) → a = b
  | [], [], _, _, _ => rfl
  | [], y :: b, _, _, h => by have := (h y).2 (List.mem_cons_self ..); cases this
  | x :: a, [], _, _, h => by have := (h x).1 (List.mem_cons_self ..); cases this
  | x :: a, y :: b, ha, hb, h => by
    rw [List.pairwise_cons] at ha hb
    have hxy : x = y := by
      rcases List.mem_cons.1 ((h x).1 (List.mem_cons_self ..)) with e | e
      · exact e
      · rcases List.mem_cons.1 ((h y).2 (List.mem_cons_self ..)) with e' | e'
        · exact e'.symm
        · have h1 := hb.1 x e
          have h2 := ha.1 y e'
          omega
    subst hxy
    rw [rising_ext ha.2 hb.2 fun z => ?_]
    constructor
    · intro hz
      rcases List.mem_cons.1 ((h z).1 (List.mem_cons_of_mem _ hz)) with e | e
      · subst e; exact absurd (ha.1 z hz) (by omega)
      · exact e
    · intro hz
      rcases List.mem_cons.1 ((h z).2 (List.mem_cons_of_mem _ hz)) with e | e
      · subst e; exact absurd (hb.1 z hz) (by omega)
      · exact e
/-! ### the maker -/
structure PS where
  classes : List C4
  rules : List Int
  follow : List (List Int)
  last : List Bool
structure Shape where
  empty : Bool
  first : List Int
  last : List Int
def behindF (fol : List (List Int)) (last first : List Int) : List (List Int) := last.foldl (fun f x => f.set x.toNat (uni (f.getD x.toNat []) first)) fol
def nodeF (rule : Int) : Re → PS → Shape × PS
  | .empty, p => (⟨true, [], []⟩, p)
  | .none, p => (⟨false, [], []⟩, p)
  | .byte c, p => (⟨false, [(p.classes.length : Int)], [(p.classes.length : Int)]⟩, ⟨p.classes ++ [c], p.rules ++ [rule], p.follow ++ [[]], p.last ++ [false]⟩)
  | .star a, p => (⟨true, (nodeF rule a p).1.first, (nodeF rule a p).1.last⟩, { (nodeF rule a p).2 with follow := behindF (nodeF rule a p).2.follow (nodeF rule a p).1.last (nodeF rule a p).1.first })
  | .alt a b, p => (⟨(nodeF rule a p).1.empty || (nodeF rule b (nodeF rule a p).2).1.empty, uni (nodeF rule a p).1.first (nodeF rule b (nodeF rule a p).2).1.first, uni (nodeF rule a p).1.last (nodeF rule b (nodeF rule a p).2).1.last⟩, (nodeF rule b (nodeF rule a p).2).2)
  | .cat a b, p =>
    (⟨(nodeF rule a p).1.empty && (nodeF rule b (nodeF rule a p).2).1.empty,
      if (nodeF rule a p).1.empty then uni (nodeF rule a p).1.first (nodeF rule b (nodeF rule a p).2).1.first else (nodeF rule a p).1.first,
      if (nodeF rule b (nodeF rule a p).2).1.empty then uni (nodeF rule a p).1.last (nodeF rule b (nodeF rule a p).2).1.last else (nodeF rule b (nodeF rule a p).2).1.last⟩,
     { (nodeF rule b (nodeF rule a p).2).2 with follow := behindF (nodeF rule b (nodeF rule a p).2).2.follow (nodeF rule a p).1.last (nodeF rule b (nodeF rule a p).2).1.first })
structure PSOk (p : PS) : Prop where
  rules : p.rules.length = p.classes.length
  follow : p.follow.length = p.classes.length
  last : p.last.length = p.classes.length
  ris : ∀ l ∈ p.follow, Ris p.classes.length l
theorem behind_len (fol : List (List Int)) (last first : List Int) : (behindF fol last first).length = fol.length := by
  unfold behindF
  induction last generalizing fol with
  | nil => rfl
  | cons x r ih => rw [List.foldl_cons, ih, List.length_set]
theorem behind_ris {n : Nat} {first : List Int} (hf : ∀ x ∈ first, 0 ≤ x ∧ x < n) : ∀ (last : List Int) (fol : List (List Int)), (∀ l ∈ fol, Ris n l) → ∀ l ∈ behindF fol last first, Ris n l
  | [], fol, h => h
  | x :: r, fol, h => by
    show ∀ l ∈ behindF (fol.set x.toNat (uni (fol.getD x.toNat []) first)) r first, Ris n l
    refine behind_ris hf r _ fun l hl => ?_
    rcases List.mem_or_eq_of_mem_set hl with hl | rfl
    · exact h l hl
    · refine ris_uni (fun y hy => ?_) hf
      by_cases c : x.toNat < fol.length
      · rw [List.getD_eq_getElem?_getD, List.getElem?_eq_getElem c] at hy
        exact (h _ (List.getElem_mem c)).2 y hy
      · rw [List.getD_eq_getElem?_getD, List.getElem?_eq_none (by omega)] at hy
        cases hy
theorem node_ok (rule : Int) : ∀ (e : Re) (p : PS), PSOk p → PSOk (nodeF rule e p).2 ∧ p.classes.length ≤ (nodeF rule e p).2.classes.length ∧ (nodeF rule e p).2.classes.length ≤ p.classes.length + e.size ∧ Ris (nodeF rule e p).2.classes.length (nodeF rule e p).1.first ∧ Ris (nodeF rule e p).2.classes.length (nodeF rule e p).1.last
  | .empty, p, h => ⟨h, Nat.le_refl _, Nat.le_add_right _ _, ris_nil _, ris_nil _⟩
  | .none, p, h => ⟨h, Nat.le_refl _, Nat.le_add_right _ _, ris_nil _, ris_nil _⟩
  | .byte c, p, h => by
    have h1 : Ris (p.classes ++ [c]).length [(p.classes.length : Int)] := ⟨List.pairwise_singleton _ _, fun x hx => by rw [List.mem_singleton.1 hx, List.length_append, List.length_singleton]; omega⟩
    refine ⟨⟨?_, ?_, ?_, fun l hl => ?_⟩, ?_, ?_, h1, h1⟩
    · show (p.rules ++ [rule]).length = (p.classes ++ [c]).length; rw [List.length_append, List.length_append, h.rules]; rfl
    · show (p.follow ++ [[]]).length = (p.classes ++ [c]).length; rw [List.length_append, List.length_append, h.follow]; rfl
    · show (p.last ++ [false]).length = (p.classes ++ [c]).length; rw [List.length_append, List.length_append, h.last]; rfl
    · have hl : l ∈ p.follow ++ [[]] := hl
      show Ris (p.classes ++ [c]).length l
      rcases List.mem_append.1 hl with hl | hl
      · exact ris_mono (h.ris l hl) (by simp)
      · rw [List.mem_singleton.1 hl]; exact ris_nil _
    · show p.classes.length ≤ (p.classes ++ [c]).length; simp
    · show (p.classes ++ [c]).length ≤ _; simp [Re.size]
  | .star a, p, h => by
    obtain ⟨h1, h2, h3, h4, h5⟩ := node_ok rule a p h
    exact ⟨⟨h1.rules, (behind_len _ _ _).trans h1.follow, h1.last, behind_ris h4.2 _ _ h1.ris⟩, h2, by show _ ≤ p.classes.length + (a.size + 1); exact Nat.le_trans h3 (by omega), h4, h5⟩
  | .alt a b, p, h => by
    obtain ⟨h1, h2, h3, h4, h5⟩ := node_ok rule a p h
    obtain ⟨k1, k2, k3, k4, k5⟩ := node_ok rule b _ h1
    exact ⟨k1, Nat.le_trans h2 k2, by show _ ≤ p.classes.length + (a.size + b.size + 1); exact Nat.le_trans k3 (by omega), ris_uni (ris_mono h4 k2).2 k4.2, ris_uni (ris_mono h5 k2).2 k5.2⟩
  | .cat a b, p, h => by
    obtain ⟨h1, h2, h3, h4, h5⟩ := node_ok rule a p h
    obtain ⟨k1, k2, k3, k4, k5⟩ := node_ok rule b _ h1
    refine ⟨⟨k1.rules, (behind_len _ _ _).trans k1.follow, k1.last, behind_ris k4.2 _ _ k1.ris⟩, Nat.le_trans h2 k2, by show _ ≤ p.classes.length + (a.size + b.size + 1); exact Nat.le_trans k3 (by omega), ?_, ?_⟩
    · show Ris _ (if _ then _ else _)
      split
      · exact ris_uni (ris_mono h4 k2).2 k4.2
      · exact ris_mono h4 k2
    · show Ris _ (if _ then _ else _)
      split
      · exact ris_uni (ris_mono h5 k2).2 k5.2
      · exact k5
end Go.Proofs.YtndbaalenclgaaaDoor.placesL

/- IntO -/
namespace Go.Proofs.YtndbaalenclgaaaDoor.eng
open Go.RowKit kit mix
theorem one_int (l : List Int) : ∀ u ∈ l.flatMap kit.intC, u.oneCell' = true := by
  intro u hu
  obtain ⟨f, _, h⟩ := List.mem_flatMap.1 hu
  simp only [kit.intC, List.mem_cons, List.not_mem_nil, or_false] at h
  subst h; rfl
end Go.Proofs.YtndbaalenclgaaaDoor.eng

/- IntK -/
namespace Go.Proofs.YtndbaalenclgaaaDoor.eng
open Go.RowKit kit mix
theorem IntC_len (a : Int) : (kit.intC a).length = 1 := rfl
set_option maxHeartbeats 2000000 in
theorem cloneIntC_calls (v : Value) (l : List Int) (w : World) (hs : Sl w v l.length (l.flatMap kit.intC)) (hl : l.length * 8 ≤ 140737488355328) :
    Calls Tryd.prog 19 #[v] w (Meets (rowS 3 1 l.length (l.flatMap kit.intC) id) w) := by
  obtain ⟨base, cap, rfl, hcap, hmax, hrd⟩ := hs
  unfold maxLen at hmax
  refine enter (args := [.slice base l.length cap]) (n := 8) Tryd.func19 rfl rfl rfl ?_
  have hsl : ∀ w', Gr w w' → Sl w' (.slice base l.length cap) l.length (l.flatMap kit.intC) := fun w' hg => Sl.gr ⟨base, cap, rfl, hcap, hmax, hrd⟩ hg
  clear hrd
  cases base with
  | none =>
    repeat (first
      | refine qv rfl (qp rfl) rfl rfl ?_ | refine TL_nil ?_ | refine T_seq ?_ | refine T_region ?_ | refine qcT rfl ?_ | refine qcF rfl ?_ | refine T_skip ?_
      | refine T_ret ?_ | refine E_then ?_ | refine E_thenR ?_ | refine qv rfl (rr_slnil Und.eq rfl rfl rfl) rfl rfl ?_)
    have h0 : l = [] := by
      cases l with
      | nil => rfl
      | cons x l => obtain ⟨_, _, h, _, _, h2⟩ := hsl w (Gr.refl w); simp only [Value.slice.injEq] at h; obtain ⟨rfl, _⟩ := h; obtain ⟨b, off, h, _⟩ := h2 (by simp); cases h
    subst h0
    refine E_nilrow 3 1 ?_
    exact E_ret1 rfl rfl fun w hm => hm.meets (S := rowS 3 1 0 [] id) _ trivial [0] (by decide) rfl
  | some p =>
    repeat (first
      | refine qv rfl (qp rfl) rfl rfl ?_ | refine TL_nil ?_ | refine T_seq ?_ | refine T_region ?_ | refine qcT rfl ?_ | refine qcF rfl ?_ | refine T_skip ?_
      | refine T_ret ?_ | refine E_then ?_ | refine E_thenR ?_ | refine qv rfl (rr_slnil Und.eq rfl rfl rfl) rfl rfl ?_)
    refine TL_lit0 rfl fun g => ?_
    repeat (first
      | refine qv rfl (qp rfl) rfl rfl ?_ | refine TL_nil ?_ | refine T_seq ?_ | refine T_region ?_ | refine qcT rfl ?_ | refine qcF rfl ?_ | refine T_skip ?_
      | refine T_ret ?_ | refine E_then ?_ | refine E_thenR ?_)
    refine TL_appSl (i := 0) rfl (fun w' hm => hsl w' hm.below) rfl rfl (len_el IntC_len l) (one_int l) (by omega) (by omega) rfl fun v' => ?_
    rw [List.nil_append]
    repeat (first
      | refine qv rfl (qp rfl) rfl rfl ?_ | refine TL_nil ?_ | refine T_seq ?_ | refine T_region ?_ | refine qcT rfl ?_ | refine qcF rfl ?_ | refine T_skip ?_
      | refine T_ret ?_ | refine E_then ?_ | refine E_thenR ?_)
    refine E_ret1 rfl rfl fun w hm => ?_
    exact hm.meets (S := rowS 3 1 l.length (l.flatMap kit.intC) id) v' trivial [0] (by decide) (by simp [rowS])
end Go.Proofs.YtndbaalenclgaaaDoor.eng

/- PlU -/
namespace Go.Proofs.YtndbaalenclgaaaDoor.eng
open Go.RowKit kit mix placesL
theorem int_flat (l : List Int) : l.flatMap kit.intC = l.map (Value.int .i64) := by
  induction l with
  | nil => rfl
  | cons x r ih => rw [List.flatMap_cons, ih]; rfl
abbrev intR (v : Value) (l : List Int) : Own := rowO 3 1 v l.length (l.map (Value.int .i64))
def intRS (l : List Int) : Spec Value := ⟨fun _ => True, fun v => v, fun v => [intR v l]⟩
set_option maxHeartbeats 2000000 in
theorem union_calls (va vb : Value) (a b : List Int) (w : World) (ha : Sl w va a.length (a.map (Value.int .i64))) (hb : Sl w vb b.length (b.map (Value.int .i64))) (hla : a.length ≤ 1000000) (hlb : b.length ≤ 1000000) :
    Calls Tryd.prog 12 #[va, vb] w (Meets (intRS (uni a b)) w) := by
  have hcl := fun w' (hg : Gr w w') => cloneIntC_calls va a w' (by rw [int_flat]; exact ha.gr hg) (by omega)
  refine enter (args := [va, vb]) (n := 14) Tryd.func12 rfl rfl rfl ?_
  repeat (first
    | refine qv rfl (qp rfl) rfl rfl ?_ | refine TL_nil ?_ | refine T_seq ?_ | refine T_region ?_ | refine T_ret ?_ | refine E_then ?_ | refine E_thenR ?_)
  refine TL_call (he1 EntersC.en rfl rfl) (fun w hm => hcl _ hm.below) rfl rfl rfl ?_
  intro v1 _
  conv => arg 8; simp only [zA, zB, zC, zD, zE, zF, zG, zH, zI, rowS, ret, id_eq]
  rw [int_flat]
  repeat (first
    | refine qv rfl (qp rfl) rfl rfl ?_ | refine TL_nil ?_ | refine T_seq ?_ | refine T_region ?_ | refine T_ret ?_ | refine E_then ?_ | refine E_thenR ?_)
  refine TL_appSl (i := 0) (bytes := 8) (m := a.length) (xs := a.map (Value.int .i64)) (k := b.length) (ys := b.map (Value.int .i64)) rfl (sl_old hb) rfl rfl (by rw [List.length_map, Nat.mul_one]) (fun u hu => by obtain ⟨x, _, rfl⟩ := List.mem_map.1 hu; rfl) (by omega) (by omega) rfl fun v2 => ?_
  rw [← List.map_append, ← List.length_append]
  conv => arg 8; simp only [zA, zB, zC, zD, zE, zF, zG, zH, zI, rowS, ret, id_eq]
  repeat (first
    | refine qv rfl (qp rfl) rfl rfl ?_ | refine TL_nil ?_ | refine T_seq ?_ | refine T_region ?_ | refine T_ret ?_ | refine E_then ?_ | refine E_thenR ?_)
  refine TL_callB [0] [] (by decide) rfl rfl (he1 EntersC.en rfl rfl) (fun w hm hb => sortI_calls v2 (a ++ b) w _ hb (by rw [List.length_append]; omega)) rfl rfl rfl ?_
  intro _ _
  conv => arg 8; simp only [zA, zB, zC, zD, zE, zF, zG, zH, zI, rowS, ret, id_eq]
  repeat (first
    | refine qv rfl (qp rfl) rfl rfl ?_ | refine TL_nil ?_ | refine T_seq ?_ | refine T_region ?_ | refine T_ret ?_ | refine E_then ?_ | refine E_thenR ?_)
  rw [show (a ++ b).length = (eng.sortL (a ++ b)).length from (List.length_mergeSort _).symm]
  refine TL_callB [0] [] (by decide) rfl rfl (he1 EntersC.en rfl rfl) (fun w hm hb => compactI_calls v2 (eng.sortL (a ++ b)) w _ hb) rfl rfl rfl ?_
  intro v3 _
  conv => arg 8; simp only [zA, zB, zC, zD, zE, zF, zG, zH, zI, rowS, ret, id_eq]
  repeat (first
    | refine qv rfl (qp rfl) rfl rfl ?_ | refine TL_nil ?_ | refine T_seq ?_ | refine T_region ?_ | refine T_ret ?_ | refine E_then ?_ | refine E_thenR ?_)
  exact E_ret1 rfl rfl fun w hm => hm.meets (S := intRS (uni a b)) v3 trivial [0] (by decide) rfl
end Go.Proofs.YtndbaalenclgaaaDoor.eng

/- PlB -/
namespace Go.Proofs.YtndbaalenclgaaaDoor.eng
open Go.RowKit kit mix placesL
def one1 (v : Value) : List Value := [v]
theorem one1_len (v : Value) : (one1 v).length = 1 := rfl
theorem one1_flat (l : List Value) : l.flatMap one1 = l := by
  induction l with
  | nil => rfl
  | cons x r ih => rw [List.flatMap_cons, ih]; rfl
theorem ownsRow_stay {w w' : World} {e : TypeId} {size n : Nat} {v : Value} {xs : List Value} (h : w.ownsRow 0 e size v n xs) (hk : ∀ k, v.ownBlock = some k → w'.heap[k]? = w.heap[k]?) : w'.ownsRow 0 e size v n xs := by
  refine ⟨h.1, ?_⟩
  rcases h.2 with hn | ⟨g, cap, cur, rfl, hb0, hg, rest⟩
  · exact .inl hn
  · exact .inr ⟨g, cap, cur, rfl, hb0, by rw [hk g rfl]; exact hg, rest⟩
/-- rows of numbers, each a block of its own or none -/
def folS : Shp (List Int) :=
  ⟨1, fun F w cs l => ∃ v, cs = [v] ∧ (∀ x ∈ l, kit.okI64 x) ∧ w.ownsRow 0 3 1 v l.length (l.map (Value.int .i64)) ∧ ∀ k, v.ownBlock = some k → F k, fun ⟨_, h, _⟩ => by rw [h]; rfl,
    fun ⟨v, h1, h2, h3, h4⟩ hk => ⟨v, h1, h2, ownsRow_stay h3 fun k h => hk k (h4 k h), h4⟩, fun ⟨v, h1, h2, h3, h4⟩ hk => ⟨v, h1, h2, h3, fun k h => hk k (h4 k h)⟩⟩
abbrev folR (v : Value) (vs : List Value) : Own := rowO 24 1 v vs.length (vs.flatMap one1)
abbrev folE (F : Nat → Prop) (vs : List Value) (fol : List (List Int)) : Own := elsO folS F (vs.map one1) fol
def mkC (vc vr vf vfol vl ve : Value) (rule : Int) : Array Value := #[vc, vr, vf, vfol, vl, ve, .int .i64 rule]
theorem els_set {α : Type} {s : Shp α} {F F2 : Nat → Prop} {css : List (List Value)} {cs : List Value} {l : List α} {a : α} {w : World} {k : Nat} (he : (elsO s F css l).holds w) (hs : s.is F2 w cs a) (h2 : ∀ k, F2 k → k < w.heap.size) :
    (elsO s (fun k => F k ∨ F2 k) (css.set k cs) (l.set k a)).holds w := by
  obtain ⟨⟨h1, h3⟩, h4⟩ := he
  refine ⟨⟨by simp [h1], fun i hi hi' => ?_⟩, fun k hk => hk.elim (h4 k) (h2 k)⟩
  rw [List.getElem_set, List.getElem_set]
  by_cases c : k = i
  · subst c
    rw [if_pos rfl, if_pos rfl]
    exact s.mono hs fun q hq => .inr hq
  · rw [if_neg c, if_neg c]
    exact s.mono (h3 i (by simpa using hi) (by simpa using hi')) fun q hq => .inl hq
theorem fol_sl {F : Nat → Prop} {vs : List Value} {fol : List (List Int)} {w : World} (he : (folE F vs fol).holds w) {k : Nat} (hk : k < fol.length) (hk' : k < vs.length) : Sl w vs[k] fol[k].length (fol[k].map (Value.int .i64)) := by
  obtain ⟨⟨h1, h3⟩, _⟩ := he
  obtain ⟨v, hv, _, hs, _⟩ := h3 k hk (by simpa using hk')
  rw [List.getElem_map] at hv
  unfold one1 at hv
  simp only [List.cons.injEq, and_true] at hv
  rw [hv]
  exact Sl.of_own hs
theorem fol_is {w : World} {v : Value} {l : List Int} (hp : ∀ x ∈ l, kit.okI64 x) (h : (intR v l).holds w) : folS.is (fun k => v.ownBlock = some k) w [v] l :=
  ⟨v, rfl, hp, h, fun _ h => h⟩
def behSp (g : Nat) (vc vr vf vfol vl ve : Value) (rule : Int) (va vb : Value) (fol : List (List Int)) (last first : List Int) : Spec (List Value × (Nat → Prop)) :=
  ⟨fun x => x.1.length = fol.length, fun _ => .tuple #[], fun x => [blkO g (mkC vc vr vf vfol vl ve rule) 47, folR vfol x.1, folE x.2 x.1 (behindF fol last first), intR va last, intR vb first]⟩
theorem behind_step (fol : List (List Int)) (last first : List Int) {k : Nat} (hk : k < last.length) : behindF fol (last.take (k + 1)) first = (behindF fol (last.take k) first).set last[k].toNat (uni ((behindF fol (last.take k) first).getD last[k].toNat []) first) := by
  unfold behindF
  rw [List.take_succ_eq_append_getElem hk, List.foldl_append]; rfl
set_option maxHeartbeats 8000000 in
theorem behind_calls (g : Nat) (vc vr vf vfol vl ve : Value) (rule : Int) (va vb : Value) (vs : List Value) (F : Nat → Prop) (fol : List (List Int)) (last first : List Int) (w : World) (B : Base)
    (hvs : vs.length = fol.length) (hn : fol.length ≤ 100000) (hfol : ∀ l ∈ fol, Ris fol.length l) (hla : Ris fol.length last) (hfi : Ris fol.length first)
    (hm : Mem B [blkO g (mkC vc vr vf vfol vl ve rule) 47, folR vfol vs, folE F vs fol, intR va last, intR vb first] w) :
    Calls Tryd.prog 18 #[.pointer (some ⟨g, 0, none⟩), va, vb] w (MeetsB (behSp g vc vr vf vfol vl ve rule va vb fol last first) B) := by
  have hlast := ris_len hla
  have hfirst := ris_len hfi
  have hva : ∃ a c, va = .slice a last.length c := by
    obtain ⟨base, cap, h, _⟩ := Sl.of_own (show w.ownsRow 0 3 1 va last.length (last.map (Value.int .i64)) from hm.get (i := 3) rfl)
    exact ⟨base, cap, h⟩
  obtain ⟨aa, ca, rfl⟩ := hva
  refine enterB hm (args := [.pointer (some ⟨g, 0, none⟩), .slice aa last.length ca, vb]) (n := 32) Tryd.func18 rfl rfl rfl ?_
  clear hm
  repeat (first
    | refine qv rfl (qp rfl) rfl rfl ?_ | refine TL_nil ?_ | refine T_seq ?_ | refine T_region ?_ | refine qcT rfl ?_ | refine qcF rfl ?_ | refine T_skip ?_
    | refine T_exit ?_ | refine T_block ?_ | refine E_then ?_ | refine E_thenX ?_ | refine E_thenR ?_ | refine E_blockN ?_ | refine E_blockR ?_
    | refine E_blockX ?_ | refine E_blockO rfl ?_ | refine qv rfl (qlen Und.eq rfl) rfl rfl ?_ | refine qv rfl (qfld FldC.fld rfl rfl) rfl rfl ?_
    | refine qv rfl (rr_nilc rfl) rfl rfl ?_ | refine qv rfl (rr_lss rfl rfl (qT (by omega))) rfl rfl ?_
    | refine qv rfl (rr_lss rfl rfl (qF (by omega))) rfl rfl ?_ | refine qv rfl (rr_add64 rfl rfl (by omega) (by omega) rfl) rfl rfl ?_)
  refine T_loop (ι := Nat × List Value × (Nat → Prop)) (fun (k, vs, F) => k ≤ last.length ∧ vs.length = fol.length) (fun (k, _, _) => [(0, .pointer (some ⟨g, 0, none⟩)), (2, vb), (8, .slice aa last.length ca), (9, .int .i64 last.length), (10, .int .i64 (k : Int))])
    (fun (k, vs, F) => [blkO g (mkC vc vr vf vfol vl ve rule) 47, folR vfol vs, folE F vs (behindF fol (last.take k) first), intR (.slice aa last.length ca) last, intR vb first]) (fun (k, _, _) => last.length - k) (0, vs, F) ⟨Nat.zero_le _, hvs⟩ (by repeat' (first | exact True.intro | refine And.intro rfl ?_)) rfl ?_
  clear hvs vs F
  rintro ⟨k, vs, F⟩ ⟨i1, i2⟩
  dsimp only at i1 i2 ⊢
  by_cases c6 : k < last.length
  · have hstep := behind_step fol last first c6
    have hris := behind_ris (n := fol.length) hfi.2 (last.take k) fol hfol
    have hlen := behind_len fol (last.take k) first
    have hx := hla.2 last[k] (List.getElem_mem c6)
    have hgx : last[k]? = some last[k] := List.getElem?_eq_getElem c6
    generalize behindF fol (last.take k) first = fo at *
    generalize last[k] = x at *
    obtain ⟨xn, rfl⟩ := Int.eq_ofNat_of_zero_le hx.1
    rw [Int.toNat_natCast] at hstep
    have hxn : xn < fo.length := by omega
    have hget : fo.getD xn [] = fo[xn] := by rw [List.getD_eq_getElem?_getD, List.getElem?_eq_getElem hxn]; rfl
    rw [hget] at hstep
    have hrx := hris fo[xn] (List.getElem_mem hxn)
    have hrl := ris_len hrx
    have hru := ris_uni hrx.2 hfi.2
    have hul := ris_len hru
    refine T_know (i := 1) (φ := ∃ gf cap, vfol = .slice (some ⟨gf, 0, none⟩) vs.length cap ∧ vs.length ≤ cap) rfl (fun w h => by
      obtain ⟨h1, h2⟩ := (show w.ownsRow 0 24 1 vfol vs.length (vs.flatMap one1) from h)
      rcases h2 with ⟨_, h0⟩ | ⟨gf, cap, cur, hv, _, _, hc, _⟩
      · omega
      · exact ⟨gf, cap, hv, hc⟩) fun hvf => ?_
    obtain ⟨gf, capf, rfl, hcf⟩ := hvf
    refine T_know (i := 3) (φ := ∃ ga, aa = some ⟨ga, 0, none⟩) rfl (fun w h => by
      obtain ⟨h1, h2⟩ := (show w.ownsRow 0 3 1 (.slice aa last.length ca) last.length (last.map (Value.int .i64)) from h)
      rcases h2 with ⟨_, h0⟩ | ⟨gf, cap, cur, hv, _, _, hc, _⟩
      · omega
      · cases hv; exact ⟨gf, rfl⟩) fun hva => ?_
    obtain ⟨ga, rfl⟩ := hva
    have hxv : xn < vs.length := by omega
    have hrow : ∀ (L : List Own) (hi : L[1]? = some (folR (.slice (some ⟨gf, 0, none⟩) vs.length capf) vs)), At B L ⟨gf, 0 + xn * 1 + 0, none⟩ vs[xn] := fun L hi => at_rowel one1_len hi hxv 0 _ rfl
    have hla3 : ∀ (L : List Own) (hi : L[3]? = some (intR (.slice (some ⟨ga, 0, none⟩) last.length ca) last)), At B L ⟨ga, 0 + k * 1, none⟩ (.int .i64 (xn : Int)) := fun L hi => at_row hi (by rw [List.getElem?_map, Nat.zero_add, Nat.mul_one, hgx]; rfl)
    repeat (first
      | refine qv rfl (qp rfl) rfl rfl ?_ | refine TL_nil ?_ | refine T_seq ?_ | refine T_region ?_ | refine qcT rfl ?_ | refine qcF rfl ?_ | refine T_skip ?_
      | refine T_exit ?_ | refine T_block ?_ | refine E_then ?_ | refine E_thenX ?_ | refine E_thenR ?_ | refine E_blockN ?_ | refine E_blockR ?_
      | refine E_blockX ?_ | refine E_blockO rfl ?_ | refine qv rfl (rr_idxc Und.eq TyC.ty rfl rfl c6) rfl rfl ?_
      | refine qv rfl (rr_load1 (v := .int .i64 (xn : Int)) TyC.ty rfl (hla3 _ rfl)) rfl rfl ?_ | refine qv rfl (qlen Und.eq rfl) rfl rfl ?_
      | refine qv rfl (qfld FldC.fld rfl rfl) rfl rfl ?_ | refine qv rfl (rr_nilc rfl) rfl rfl ?_ | refine qv rfl (rr_lss rfl rfl (qT (by omega))) rfl rfl ?_
      | refine qv rfl (rr_lss rfl rfl (qF (by omega))) rfl rfl ?_ | refine qv rfl (rr_add64 rfl rfl (by omega) (by omega) rfl) rfl rfl ?_)
    (repeat refine T_seq ?_)
    refine T_ord ([blkO g (mkC vc vr vf (.slice (some ⟨gf, 0, none⟩) vs.length capf) vl ve rule) 47]) (.calm 0 (.calm 1 (.calm 2 (.calm 3 (.calm 4 (.calm 5 (.calm 6 (.calm 7 (.calm 8 (.calm 9 (.calm 10 (.calm 11 (.calm 12 (.calm 14 (.one 13 (.one 15 (.calm 16 (.one 17 (.done))))))))))))))))))) (sub_pick [0] (by decide) rfl) (by kernel_rfl) (by kernel_rfl) (by intro c a d v w h; cases d <;> exact h) ?_
    repeat (first
      | ((first | refine TW_plain rfl rfl ?_ | refine TW_gmet rfl rfl rfl rfl ?_); first | refine TN_val (qp rfl) rfl rfl ?_ | refine TN_val (rr_nilc rfl) rfl rfl ?_ | refine TN_val (rr_load1 (v := .slice (some ⟨gf, 0, none⟩) vs.length capf) TyC.ty rfl (at_blk (i := 0) rfl rfl)) rfl rfl ?_ | refine TN_val (rr_idxc Und.eq TyC.ty rfl rfl hxv) rfl rfl ?_ | refine TN_val (qlen Und.eq rfl) rfl rfl ?_ | refine TN_val (qfld FldC.fld rfl rfl) rfl rfl ?_ | refine TN_val (rr_nilc rfl) rfl rfl ?_ | refine TN_val (rr_lss rfl rfl (qT (by omega))) rfl rfl ?_ | refine TN_val (rr_lss rfl rfl (qF (by omega))) rfl rfl ?_ | refine TN_val (rr_add64 rfl rfl (by omega) (by omega) rfl) rfl rfl ?_)
      | refine TW_done ?_)
    refine TW_one rfl (TL_val (rr_load1 (v := vs[xn]) TyC.ty rfl (hrow _ rfl)) rfl rfl rfl (TW_on (sub_pick [0] (by decide) rfl) ?_))
    repeat (first
      | ((first | refine TW_plain rfl rfl ?_ | refine TW_gmet rfl rfl rfl rfl ?_); first | refine TN_val (qp rfl) rfl rfl ?_ | refine TN_val (rr_nilc rfl) rfl rfl ?_ | refine TN_val (qlen Und.eq rfl) rfl rfl ?_ | refine TN_val (qfld FldC.fld rfl rfl) rfl rfl ?_ | refine TN_val (rr_nilc rfl) rfl rfl ?_ | refine TN_val (rr_lss rfl rfl (qT (by omega))) rfl rfl ?_ | refine TN_val (rr_lss rfl rfl (qF (by omega))) rfl rfl ?_ | refine TN_val (rr_add64 rfl rfl (by omega) (by omega) rfl) rfl rfl ?_)
      | refine TW_done ?_)
    refine TW_one rfl (TL_call (he2 EntersC.en rfl rfl rfl) (fun w' hm => union_calls vs[xn] vb fo[xn] first w' (fol_sl (hm.get (i := 2) rfl) hxn hxv) (Sl.of_own (hm.get (i := 4) rfl)) (by omega) (by omega)) rfl rfl rfl ?_)
    intro v _
    conv => arg 8; simp only [zA, zB, zC, zD, zE, zF, zG, zH, zI, rowS, ret, id_eq, intRS]
    refine TL_slv (i := 5) rfl fun hc1 ho1 => ?_
    refine TW_on (sub_pick [0] (by decide) rfl) ?_
    repeat (first
      | ((first | refine TW_plain rfl rfl ?_ | refine TW_gmet rfl rfl rfl rfl ?_); first | refine TN_val (qp rfl) rfl rfl ?_ | refine TN_val (rr_idxc Und.eq TyC.ty rfl rfl hxv) rfl rfl ?_ | refine TN_val (qlen Und.eq rfl) rfl rfl ?_ | refine TN_val (qfld FldC.fld rfl rfl) rfl rfl ?_ | refine TN_val (rr_nilc rfl) rfl rfl ?_ | refine TN_val (rr_lss rfl rfl (qT (by omega))) rfl rfl ?_ | refine TN_val (rr_lss rfl rfl (qF (by omega))) rfl rfl ?_ | refine TN_val (rr_add64 rfl rfl (by omega) (by omega) rfl) rfl rfl ?_)
      | refine TW_done ?_)
    refine TW_one rfl (TL_setRow one1_len (i := 1) (k := xn) (l := vs) (a := v) TyC.ty rfl rfl (by omega) hxv rfl rfl hc1 (by simp only [one1, List.all_cons, List.all_nil, ho1]; rfl) (TW_on (sub_pick [0] (by decide) rfl) ?_))
    repeat (first
      | ((first | refine TW_plain rfl rfl ?_ | refine TW_gmet rfl rfl rfl rfl ?_); first | refine TN_val (qp rfl) rfl rfl ?_ | refine TN_val (qlen Und.eq rfl) rfl rfl ?_ | refine TN_val (qfld FldC.fld rfl rfl) rfl rfl ?_ | refine TN_val (rr_nilc rfl) rfl rfl ?_ | refine TN_val (rr_lss rfl rfl (qT (by omega))) rfl rfl ?_ | refine TN_val (rr_lss rfl rfl (qF (by omega))) rfl rfl ?_ | refine TN_val (rr_add64 rfl rfl (by omega) (by omega) rfl) rfl rfl ?_)
      | refine TW_done ?_)
    repeat (first
      | refine qv rfl (qp rfl) rfl rfl ?_ | refine TL_nil ?_ | refine T_seq ?_ | refine T_region ?_ | refine qcT rfl ?_ | refine qcF rfl ?_ | refine T_skip ?_
      | refine T_exit ?_ | refine T_block ?_ | refine E_then ?_ | refine E_thenX ?_ | refine E_thenR ?_ | refine E_blockN ?_ | refine E_blockR ?_
      | refine E_blockX ?_ | refine E_blockO rfl ?_ | refine qv rfl (qlen Und.eq rfl) rfl rfl ?_ | refine qv rfl (qfld FldC.fld rfl rfl) rfl rfl ?_
      | refine qv rfl (rr_nilc rfl) rfl rfl ?_ | refine qv rfl (rr_lss rfl rfl (qT (by omega))) rfl rfl ?_
      | refine qv rfl (rr_lss rfl rfl (qF (by omega))) rfl rfl ?_ | refine qv rfl (rr_add64 rfl rfl (by omega) (by omega) rfl) rfl rfl ?_)
    refine E_merge (folE (fun k => F k ∨ v.ownBlock = some k) (vs.set xn v) (fo.set xn (uni fo[xn] first))) 5 2 [0, 1, 3, 4] (by decide) rfl rfl rfl (fun k hk => hk.elim (fun h => by cases h) fun h => h.elim (fun h => .inr (.inr h)) fun h => .inl (.inl h)) (fun w hr he => ?_) ?_
    · have := els_set (k := xn) he (fol_is (fun x hx => ⟨by have := hru.2 x hx; omega, by have := hru.2 x hx; omega⟩) hr) fun k hk => (intR v (uni fo[xn] first)).lt w hr k (.inl hk)
      rw [show ([v] : List Value) = one1 v from rfl, ← List.map_set] at this
      exact this
    refine E_pick [0, 1, 4, 2, 3] (by decide) rfl ?_
    exact E_round (k + 1, vs.set xn v, fun k => F k ∨ v.ownBlock = some k) ⟨by omega, by rw [List.length_set]; exact i2⟩ (by show last.length - (k + 1) < last.length - k; omega) (by repeat' (first | exact True.intro | refine And.intro rfl ?_)) (by dsimp only; rw [hstep]; show _ = [_, rowO _ _ _ (vs.set xn v).length _, _, _, _]; rw [List.length_set]; rfl)
  · obtain rfl : k = last.length := by omega
    rw [List.take_of_length_le (Nat.le_refl _)]
    repeat (first
      | refine qv rfl (qp rfl) rfl rfl ?_ | refine TL_nil ?_ | refine T_seq ?_ | refine T_region ?_ | refine qcT rfl ?_ | refine qcF rfl ?_ | refine T_skip ?_
      | refine T_exit ?_ | refine T_block ?_ | refine E_then ?_ | refine E_thenX ?_ | refine E_thenR ?_ | refine E_blockN ?_ | refine E_blockR ?_
      | refine E_blockX ?_ | refine E_blockO rfl ?_ | refine qv rfl (qlen Und.eq rfl) rfl rfl ?_ | refine qv rfl (qfld FldC.fld rfl rfl) rfl rfl ?_
      | refine qv rfl (rr_nilc rfl) rfl rfl ?_ | refine qv rfl (rr_lss rfl rfl (qT (by omega))) rfl rfl ?_
      | refine qv rfl (rr_lss rfl rfl (qF (by omega))) rfl rfl ?_ | refine qv rfl (rr_add64 rfl rfl (by omega) (by omega) rfl) rfl rfl ?_)
    exact E_end0 rfl fun w hm => hm.meetsB (S := behSp g vc vr vf vfol vl ve rule (.slice aa last.length ca) vb fol last first) (vs, F) i2 [0, 1, 2, 3, 4] (by decide) rfl
end Go.Proofs.YtndbaalenclgaaaDoor.eng

