/- What rex.number computes. -/
import Derived.Test.YtbiacehgfmgfdaaDoorRexC
namespace Go.Proofs.YtbiacehgfmgfdaaDoor.eng
open Go.RowKit kit mix classL rexL
def nJ (r : Re) (n j : Nat) : Nat := n + 1 + ((r.kids.take j).map Re.size).sum
theorem nJ_0 (r : Re) (n : Nat) : nJ r n 0 = n + 1 := by simp [nJ]
theorem nJ_next (r : Re) (n : Nat) {j : Nat} (h : j < r.kids.length) : nJ r n (j + 1) = nJ r n j + r.kids[j].size := by
  unfold nJ
  rw [List.take_succ_eq_append_getElem h, List.map_append, List.sum_append]; simp; omega
theorem nJ_all (r : Re) (n : Nat) : nJ r n r.kids.length = n + r.size := by
  unfold nJ
  rw [List.take_length]
  cases r <;> simp [Re.kids, Re.size] <;> omega
theorem nJ_le (r : Re) (n : Nat) {j : Nat} (h : j < r.kids.length) : nJ r n j + r.kids[j].size ≤ n + r.size := by
  rw [← nJ_next r n h]
  cases r with
  | cat a b => match j, h with
    | 0, _ => simp [nJ, Re.kids, Re.size]; omega
    | 1, _ => simp [nJ, Re.kids, Re.size]; omega
  | alt a b => match j, h with
    | 0, _ => simp [nJ, Re.kids, Re.size]; omega
    | 1, _ => simp [nJ, Re.kids, Re.size]; omega
  | star a => match j, h with
    | 0, _ => simp [nJ, Re.kids, Re.size]; omega
  | none => simp [Re.kids] at h
  | empty => simp [Re.kids] at h
  | byte c => simp [Re.kids] at h
theorem kidsK_at (r : Re) (n : Nat) {j : Nat} (h : j < r.kids.length) : (kidsK r n)[j]'(by rw [kidsK_len]; exact h) = (r.kids[j], nJ r n j) := by
  cases r with
  | cat a b => match j, h with
    | 0, _ => rfl
    | 1, _ => simp [kidsK, nJ, Re.kids]
  | alt a b => match j, h with
    | 0, _ => rfl
    | 1, _ => simp [kidsK, nJ, Re.kids]
  | star a => match j, h with
    | 0, _ => rfl
  | none => simp [Re.kids] at h
  | empty => simp [Re.kids] at h
  | byte c => simp [Re.kids] at h
theorem kid_size {r : Re} {j : Nat} (h : j < r.kids.length) : r.kids[j].size < r.size := by
  have := nJ_le r 0 h
  unfold nJ at this
  omega
/-- numbered kids, owned -/
def nkO (F : Nat → Prop) (v : Value) (l : List (Re × Nat)) : Own := shpO (sliceS numS) F [v] l
theorem nkO_one {F : Nat → Prop} {v : Value} {l : List (Re × Nat)} {w : World} (h : (nkO F v l).holds w) : v.oneCell' = true ∧ v.cells = #[v] := by
  obtain ⟨⟨v', hv, h3⟩, h4⟩ := h
  simp only [List.cons.injEq, and_true] at hv
  subst hv
  obtain ⟨b, c, rfl, _⟩ := h3
  exact ⟨rfl, rfl⟩
theorem numC_one {r : Re} {k : Nat} {vk v : Value} (h1 : vk.oneCell' = true) (h2 : v.oneCell' = true) : (numC r k vk v).all Value.oneCell' = true := by
  simp [numC, clsL, h1, h2]; exact ⟨rfl, rfl, rfl, rfl, rfl, rfl⟩
theorem kids_two (r : Re) : r.kids.length ≤ 2 := by cases r <;> simp [Re.kids]
theorem rkid_emb {F : Nat → Prop} {w : World} {b off : Nat} {l : List Re} (h : ∀ i (h : i < (l.map emb).length), ∃ cs, rexS.is F w cs (l.map emb)[i] ∧ Rd w b (off + i * rexS.c) cs) {j : Nat} (hj : j < l.length) :
    ∃ base cap, Rd w b (off + j * 6) (rexC l[j].kind l[j].cls (.slice base l[j].kids.length cap)) ∧ kit.okI64 l[j].kind ∧ SlF rexS F w (.slice base l[j].kids.length cap) (l[j].kids.map emb) := by
  obtain ⟨cs, h1, hr⟩ := h j (by rw [List.length_map]; exact hj)
  rw [List.getElem_map, emb_eq] at h1
  obtain ⟨vk, rfl, a1, a2⟩ := rex_iff.1 (show RexIs F w cs _ from h1)
  have a2' := a2
  obtain ⟨base, cap, rfl, _⟩ := a2'
  have el : (l[j].kids.map emb).length = l[j].kids.length := List.length_map ..
  refine ⟨base, cap, ?_, a1, ?_⟩
  · rw [← el]; exact hr
  · rw [← el]; exact a2
def numSp (gn : Nat) (r : Re) (n : Nat) (vk : Value) : Spec (Value × (Nat → Prop)) := ⟨fun _ => True, fun x => .agg (numC r n vk x.1).toArray, fun x => [blkO gn #[.int .i64 ((n + r.size : Nat) : Int)] 3, nkO x.2 x.1 (kidsK r n)]⟩
theorem build_num (k : Int) (c : C4) (b : Option Addr) (l cap : Nat) (n : Nat) (w : World) : (Instr.build 73 #[(0, rexV k c (.slice b l cap)), (1, .int .i64 (n : Int))]).run Tryd.prog w = .ok (.agg (rexC k c (.slice b l cap) ++ ([.int .i64 (n : Int), .slice none 0 0] : List Value)).toArray) w := by kernel_rfl
set_option maxRecDepth 100000 in
attribute [local irreducible] Instr.build in
set_option maxHeartbeats 16000000 in
theorem number_calls (w0 : World) (gn : Nat) : ∀ (N : Nat) (r : Re), r.size ≤ N → ∀ (vk : Value) (n : Nat) (w : World) (B : Base), kit.okI64 r.kind → SlF rexS (Low w0) w0 vk (r.kids.map emb) → n + r.size ≤ 100 → Old w0 B → Mem B [blkO gn #[.int .i64 (n : Int)] 3] w →
    Calls Tryd.prog 41 #[rexV r.kind r.cls vk, .pointer (some ⟨gn, 0, none⟩)] w (MeetsB (numSp gn r n vk) B)
  | 0, r, h, _, _, _, _, _, _, _, _, _ => by have := r.size_pos; omega
  | N + 1, r, hN, vk, n, w, B, hk64, hks, hn, ho, hm => by
    have IH := number_calls w0 gn N
    obtain ⟨bk, ck, rfl, hck, hmk, hrk⟩ := hks
    unfold maxLen at hmk
    rw [List.length_map] at hck ⊢
    have hrk := fun h0 => hrk (by rw [List.length_map]; exact h0)
    have hpos := r.size_pos
    have hk2 := kids_two r
    have hbn := build_num r.kind r.cls bk r.kids.length ck n
    refine enterB hm (args := [rexV r.kind r.cls (.slice bk r.kids.length ck), .pointer (some ⟨gn, 0, none⟩)]) (n := 35) Tryd.func41 rfl rfl rfl ?_
    clear hm
    refine T_seq (T_region (TL_box rfl rfl rfl fun g2 => TL_new rfl fun g4 => ?_))
    conv => arg 8; simp only [zA, zB, zC, zD, zE, zF, zG, zH, zI, rowS, ret, id_eq]
    repeat (first
      | refine qv rfl (qp rfl) rfl rfl ?_ | refine TL_nil ?_ | refine T_seq ?_ | refine T_region ?_ | refine qcT rfl ?_ | refine qcF rfl ?_ | refine T_skip ?_
      | refine T_exit ?_ | refine T_ret ?_ | refine T_block ?_ | refine E_then ?_ | refine E_thenX ?_ | refine E_thenR ?_ | refine E_blockN ?_
      | refine E_blockR ?_ | refine E_blockX ?_ | refine E_blockO rfl ?_ | refine qv rfl (qlen Und.eq rfl) rfl rfl ?_
      | refine qv rfl (qfld FldC.fld rfl rfl) rfl rfl ?_ | refine qv rfl (rr_nilc rfl) rfl rfl ?_ | refine qv rfl (rr_lss rfl rfl (qT (by omega))) rfl rfl ?_
      | refine qv rfl (rr_lss rfl rfl (qF (by omega))) rfl rfl ?_ | refine qv rfl (rr_add64 rfl rfl (by omega) (by omega) rfl) rfl rfl ?_)
    (repeat refine T_seq ?_)
    refine T_ord ([blkO gn #[.int .i64 (n : Int)] 3, blkO g2 (rexC r.kind r.cls (.slice bk r.kids.length ck)).toArray 44]) (.calm 0 (.calm 1 (.calm 2 (.calm 3 (.calm 4 (.one 5 (.one 6 (.done)))))))) (sub_pick [0, 1] (by decide) rfl) (by kernel_rfl) (by kernel_rfl) (by intro c a d v w h; cases d <;> exact h) ?_
    repeat (first
      | ((first | refine TW_plain rfl rfl ?_ | refine TW_gmet rfl rfl rfl rfl ?_); first | refine TN_val (qp rfl) rfl rfl ?_ | refine TN_val (rr_loadB (i := 1) TyC.ty rfl rfl rfl) rfl rfl ?_ | refine TN_val (rr_nilc rfl) rfl rfl ?_ | refine TN_val (rr_load1 TyC.ty rfl (at_blk (i := 0) rfl rfl)) rfl rfl ?_ | refine TN_val (rr_build rfl hbn) rfl rfl ?_ | refine TN_val (qlen Und.eq rfl) rfl rfl ?_ | refine TN_val (qfld FldC.fld rfl rfl) rfl rfl ?_ | refine TN_val (rr_nilc rfl) rfl rfl ?_ | refine TN_val (rr_lss rfl rfl (qT (by omega))) rfl rfl ?_ | refine TN_val (rr_lss rfl rfl (qF (by omega))) rfl rfl ?_ | refine TN_val (rr_add64 rfl rfl (by omega) (by omega) rfl) rfl rfl ?_)
      | refine TW_done ?_)
    refine TW_one rfl (TL_new rfl fun g5 => TW_on (sub_pick [0, 1] (by decide) rfl) ?_)
    refine TW_one rfl (TL_storeB (i := 3) rfl rfl rfl rfl (numC_one (r := r) (k := n) rfl rfl) rfl (TW_on (sub_pick [0, 1] (by decide) rfl) ?_))
    repeat (first
      | ((first | refine TW_plain rfl rfl ?_ | refine TW_gmet rfl rfl rfl rfl ?_); first | refine TN_val (qp rfl) rfl rfl ?_ | refine TN_val (qlen Und.eq rfl) rfl rfl ?_ | refine TN_val (qfld FldC.fld rfl rfl) rfl rfl ?_ | refine TN_val (rr_nilc rfl) rfl rfl ?_ | refine TN_val (rr_lss rfl rfl (qT (by omega))) rfl rfl ?_ | refine TN_val (rr_lss rfl rfl (qF (by omega))) rfl rfl ?_ | refine TN_val (rr_add64 rfl rfl (by omega) (by omega) rfl) rfl rfl ?_)
      | refine TW_done ?_)
    repeat (first
      | refine qv rfl (qp rfl) rfl rfl ?_ | refine TL_nil ?_ | refine T_seq ?_ | refine T_region ?_ | refine qcT rfl ?_ | refine qcF rfl ?_ | refine T_skip ?_
      | refine T_exit ?_ | refine T_ret ?_ | refine T_block ?_ | refine E_then ?_ | refine E_thenX ?_ | refine E_thenR ?_ | refine E_blockN ?_
      | refine E_blockR ?_ | refine E_blockX ?_ | refine E_blockO rfl ?_ | refine qv rfl (rr_nilc rfl) rfl rfl ?_
      | refine qv rfl (rr_load1 TyC.ty rfl (at_blk (i := 0) rfl rfl)) rfl rfl ?_
      | refine qv rfl (rr_add64 (r := ((n + 1 : Nat) : Int)) rfl rfl (by omega) (by omega) (by omega)) rfl rfl ?_ | refine qv rfl (qlen Und.eq rfl) rfl rfl ?_
      | refine qv rfl (qfld FldC.fld rfl rfl) rfl rfl ?_ | refine qv rfl (rr_nilc rfl) rfl rfl ?_ | refine qv rfl (rr_lss rfl rfl (qT (by omega))) rfl rfl ?_
      | refine qv rfl (rr_lss rfl rfl (qF (by omega))) rfl rfl ?_ | refine qv rfl (rr_add64 rfl rfl (by omega) (by omega) rfl) rfl rfl ?_)
    refine TL_store1 (i := 0) rfl rfl rfl rfl rfl rfl ?_
    conv => arg 8; simp only [zA, zB, zC, zD, zE, zF, zG, zH, zI, rowS, ret, id_eq]
    repeat (first
      | refine qv rfl (qp rfl) rfl rfl ?_ | refine TL_nil ?_ | refine T_seq ?_ | refine T_region ?_ | refine qcT rfl ?_ | refine qcF rfl ?_ | refine T_skip ?_
      | refine T_exit ?_ | refine T_ret ?_ | refine T_block ?_ | refine E_then ?_ | refine E_thenX ?_ | refine E_thenR ?_ | refine E_blockN ?_
      | refine E_blockR ?_ | refine E_blockX ?_ | refine E_blockO rfl ?_ | refine qv rfl (rr_load1 TyC.ty rfl (at_blk (i := 1) rfl rfl)) rfl rfl ?_
      | refine qv rfl (qlen Und.eq rfl) rfl rfl ?_ | refine qv rfl (qfld FldC.fld rfl rfl) rfl rfl ?_ | refine qv rfl (rr_nilc rfl) rfl rfl ?_
      | refine qv rfl (rr_lss rfl rfl (qT (by omega))) rfl rfl ?_ | refine qv rfl (rr_lss rfl rfl (qF (by omega))) rfl rfl ?_
      | refine qv rfl (rr_add64 rfl rfl (by omega) (by omega) rfl) rfl rfl ?_)
    refine T_nil 73 8 (T_extra (elsO numS (fun _ => False) [] []) (fun k hk => hk.elim (fun h => by cases h) id) (fun w => els_nil) ?_)
    refine T_pick [0, 2, 3, 4, 5] (by decide) rfl ?_
    refine T_loop (ι := Nat × Value × List (List Value) × (Nat → Prop)) (fun (j, v, css, _) => j ≤ r.kids.length ∧ v.oneCell' = true) (fun (j, v, _, _) => [(1, .pointer (some ⟨gn, 0, none⟩)), (4, .pointer (some ⟨g4, 0, none⟩)), (5, .pointer (some ⟨g5, 0, none⟩)), (19, .slice bk r.kids.length ck), (20, .int .i64 (r.kids.length : Int)), (21, .int .i64 (j : Int))])
      (fun (j, v, css, F) => [blkO gn #[.int .i64 ((nJ r n j : Nat) : Int)] 3, blkO g4 (rexC 0 C4.zero (.slice none 0 0) ++ ([.int .i64 0, .slice none 0 0] : List Value)).toArray 73, blkO g5 (numC r n (.slice bk r.kids.length ck) v).toArray 73, rowO 73 8 v j css.flatten, elsO numS F css ((kidsK r n).take j)]) (fun (j, _, _, _) => r.kids.length - j) (0, .slice none 0 0, [], fun _ => False) ⟨Nat.zero_le _, rfl⟩ (by repeat' (first | exact True.intro | refine And.intro rfl ?_)) (by dsimp only; rw [nJ_0]; rfl) ?_
    rintro ⟨j, v, css, F⟩ ⟨i1, i2⟩
    dsimp only at i1 i2 ⊢
    by_cases c1 : j < r.kids.length
    · obtain ⟨b, off, rfl, _, hr⟩ := hrk (by omega)
      obtain ⟨bj, cj, hrd, hkk, hkr⟩ := rkid_emb hr c1
      have hat := fun (L : List Own) j v hj => at_oldR (L := L) ho hrd j v hj
      have hnx := nJ_next r n c1
      have hnl := nJ_le r n c1
      have hks := kid_size c1
      have htk : (kidsK r n).take (j + 1) = (kidsK r n).take j ++ [(r.kids[j], nJ r n j)] := by
        have e := kidsK_at r n c1
        rw [List.take_succ_eq_append_getElem (by rw [kidsK_len]; exact c1), e]
      generalize r.kids[j] = e at *
      generalize nJ r n j = q at *
      generalize hm' : e.kids.length = m at *
      repeat (first
        | refine qv rfl (qp rfl) rfl rfl ?_ | refine TL_nil ?_ | refine T_seq ?_ | refine T_region ?_ | refine qcT rfl ?_ | refine qcF rfl ?_ | refine T_skip ?_
        | refine T_exit ?_ | refine T_ret ?_ | refine T_block ?_ | refine E_then ?_ | refine E_thenX ?_ | refine E_thenR ?_ | refine E_blockN ?_
        | refine E_blockR ?_ | refine E_blockX ?_ | refine E_blockO rfl ?_ | refine qv rfl (rr_idxc (j := j) Und.eq TyC.ty rfl rfl c1) rfl rfl ?_
        | refine qv rfl (rr_loadN TyC.ty rfl rfl (hat _)) rfl rfl ?_ | refine qv rfl (qlen Und.eq rfl) rfl rfl ?_
        | refine qv rfl (qfld FldC.fld rfl rfl) rfl rfl ?_ | refine qv rfl (rr_nilc rfl) rfl rfl ?_ | refine qv rfl (rr_lss rfl rfl (qT (by omega))) rfl rfl ?_
        | refine qv rfl (rr_lss rfl rfl (qF (by omega))) rfl rfl ?_ | refine qv rfl (rr_add64 rfl rfl (by omega) (by omega) rfl) rfl rfl ?_)
      refine TL_new rfl fun g7 => ?_
      conv => arg 8; simp only [zA, zB, zC, zD, zE, zF, zG, zH, zI, rowS, ret, id_eq]
      refine TL_storeB (i := 5) (cs' := (rexC e.kind e.cls (.slice bj m cj)).toArray) rfl rfl rfl rfl rfl rfl ?_
      conv => arg 8; simp only [zA, zB, zC, zD, zE, zF, zG, zH, zI, rowS, ret, id_eq]
      repeat (first
        | refine qv rfl (qp rfl) rfl rfl ?_ | refine TL_nil ?_ | refine T_seq ?_ | refine T_region ?_ | refine qcT rfl ?_ | refine qcF rfl ?_ | refine T_skip ?_
        | refine T_exit ?_ | refine T_ret ?_ | refine T_block ?_ | refine E_then ?_ | refine E_thenX ?_ | refine E_thenR ?_ | refine E_blockN ?_
        | refine E_blockR ?_ | refine E_blockX ?_ | refine E_blockO rfl ?_ | refine qv rfl (qlen Und.eq rfl) rfl rfl ?_
        | refine qv rfl (qfld FldC.fld rfl rfl) rfl rfl ?_ | refine qv rfl (rr_nilc rfl) rfl rfl ?_ | refine qv rfl (rr_lss rfl rfl (qT (by omega))) rfl rfl ?_
        | refine qv rfl (rr_lss rfl rfl (qF (by omega))) rfl rfl ?_ | refine qv rfl (rr_add64 rfl rfl (by omega) (by omega) rfl) rfl rfl ?_)
      (repeat refine T_seq ?_)
      refine T_ord ([blkO g7 (rexC e.kind e.cls (.slice bj m cj)).toArray 44]) (.calm 0 (.calm 2 (.calm 3 (.two 1 (.one 4 (.one 5 (.one 6 (.calm 7 (.one 8 (.done)))))) 4 (.two 1 (.one 5 (.one 6 (.calm 7 (.one 8 (.done))))) 5 (.one 1 (.one 6 (.calm 7 (.one 8 (.done)))))))))) (sub_pick [5] (by decide) rfl) (by kernel_rfl) (by kernel_rfl) (by intro c a d v w h; cases d <;> exact h) ?_
      repeat (first
        | ((first | refine TW_plain rfl rfl ?_ | refine TW_gmet rfl rfl rfl rfl ?_); first | refine TN_val (qp rfl) rfl rfl ?_ | refine TN_val (rr_loadB (i := 0) TyC.ty rfl rfl rfl) rfl rfl ?_ | refine TN_val (qlen Und.eq rfl) rfl rfl ?_ | refine TN_val (qfld FldC.fld rfl rfl) rfl rfl ?_ | refine TN_val (rr_nilc rfl) rfl rfl ?_ | refine TN_val (rr_lss rfl rfl (qT (by omega))) rfl rfl ?_ | refine TN_val (rr_lss rfl rfl (qF (by omega))) rfl rfl ?_ | refine TN_val (rr_add64 rfl rfl (by omega) (by omega) rfl) rfl rfl ?_)
        | refine TW_done ?_)
      refine TW_two rfl rfl ?_ ?_
      · refine TL_val (rr_load1 TyC.ty rfl (at_blk (i := 2) rfl (v := v) rfl)) rfl rfl rfl (TW_on (sub_pick [5] (by decide) rfl) ?_)
        refine TW_one rfl (TL_callB [0] [1, 2, 3, 4, 5] (by decide) rfl rfl (he2 EntersC.en rfl rfl rfl) (fun w hm hb => IH e (by omega) (.slice bj m cj) q w _ hkk hkr (by omega) (ho.on hm (by intro o ho; simp at ho ⊢; simp [ho])) hb) rfl rfl rfl ?_)
        rintro ⟨vm, F2⟩ _
        conv => arg 8; simp only [zA, zB, zC, zD, zE, zF, zG, zH, zI, rowS, ret, id_eq, numSp]
        refine TL_know (i := 6) (φ := vm.oneCell' = true ∧ vm.cells = #[vm]) rfl (fun w h => nkO_one h) fun hvm => ?_
        refine TW_on (sub_pick [4] (by decide) rfl) ?_
        refine TW_one rfl (TL_one (cs := (numC e q (.slice bj m cj) vm).toArray) rfl rfl rfl rfl rfl fun g30 => ?_)
        conv => arg 8; simp only [zA, zB, zC, zD, zE, zF, zG, zH, zI, rowS, ret, id_eq]
        refine TW_on (sub_pick [4] (by decide) rfl) ?_
        refine TW_one rfl ?_
        refine TL_app1 (i := 2) (q := 7) rfl rfl rfl rfl rfl (numC_one rfl hvm.1) (by omega) (by omega) rfl fun v' => ?_
        conv => arg 8; simp only [zA, zB, zC, zD, zE, zF, zG, zH, zI, rowS, ret, id_eq]
        refine TL_slv (i := 2) rfl fun hv1 hv2 => ?_
        refine TW_on (sub_pick [4] (by decide) rfl) ?_
        repeat (first
          | ((first | refine TW_plain rfl rfl ?_ | refine TW_gmet rfl rfl rfl rfl ?_); first | refine TN_val (qp rfl) rfl rfl ?_ | refine TN_val (qlen Und.eq rfl) rfl rfl ?_ | refine TN_val (qfld FldC.fld rfl rfl) rfl rfl ?_ | refine TN_val (rr_nilc rfl) rfl rfl ?_ | refine TN_val (rr_lss rfl rfl (qT (by omega))) rfl rfl ?_ | refine TN_val (rr_lss rfl rfl (qF (by omega))) rfl rfl ?_ | refine TN_val (rr_add64 rfl rfl (by omega) (by omega) rfl) rfl rfl ?_)
          | refine TW_done ?_)
        refine TW_one rfl (TL_store1 (i := 1) rfl rfl rfl hv1 hv2 rfl ?_)
        conv => arg 8; simp only [zA, zB, zC, zD, zE, zF, zG, zH, zI, rowS, ret, id_eq]
        refine TW_on (sub_pick [4] (by decide) rfl) ?_
        repeat (first
          | ((first | refine TW_plain rfl rfl ?_ | refine TW_gmet rfl rfl rfl rfl ?_); first | refine TN_val (qp rfl) rfl rfl ?_ | refine TN_val (qlen Und.eq rfl) rfl rfl ?_ | refine TN_val (qfld FldC.fld rfl rfl) rfl rfl ?_ | refine TN_val (rr_nilc rfl) rfl rfl ?_ | refine TN_val (rr_lss rfl rfl (qT (by omega))) rfl rfl ?_ | refine TN_val (rr_lss rfl rfl (qF (by omega))) rfl rfl ?_ | refine TN_val (rr_add64 rfl rfl (by omega) (by omega) rfl) rfl rfl ?_)
          | refine TW_done ?_)
        repeat (first
          | refine qv rfl (qp rfl) rfl rfl ?_ | refine TL_nil ?_ | refine T_seq ?_ | refine T_region ?_ | refine qcT rfl ?_ | refine qcF rfl ?_ | refine T_skip ?_
          | refine T_exit ?_ | refine T_ret ?_ | refine T_block ?_ | refine E_then ?_ | refine E_thenX ?_ | refine E_thenR ?_ | refine E_blockN ?_
          | refine E_blockR ?_ | refine E_blockX ?_ | refine E_blockO rfl ?_ | refine qv rfl (qlen Und.eq rfl) rfl rfl ?_
          | refine qv rfl (qfld FldC.fld rfl rfl) rfl rfl ?_ | refine qv rfl (rr_nilc rfl) rfl rfl ?_ | refine qv rfl (rr_lss rfl rfl (qT (by omega))) rfl rfl ?_
          | refine qv rfl (rr_lss rfl rfl (qF (by omega))) rfl rfl ?_ | refine qv rfl (rr_add64 rfl rfl (by omega) (by omega) rfl) rfl rfl ?_)
        refine E_merge (elsO numS (fun k => F k ∨ F2 k) (css ++ [numC e q (.slice bj m cj) vm]) ((kidsK r n).take j ++ [(e, q)])) 6 3 [5, 0, 1, 2] (by decide) rfl rfl rfl (fun k hk => hk.elim (fun h => by cases h) fun h => h.elim (fun h => .inr (.inr h)) fun h => .inl (.inr h)) (fun w hk he => ?_) ?_
        · obtain ⟨⟨v'', hv, h5⟩, h6⟩ := hk
          simp only [List.cons.injEq, and_true] at hv
          subst hv
          exact els_snoc he (num_iff.2 ⟨_, vm, rfl, rfl, h5⟩) h6
        exact E_round (j + 1, v', css ++ [numC e q (.slice bj m cj) vm], fun k => F k ∨ F2 k) ⟨by show j + 1 ≤ r.kids.length; omega, hv2⟩ (by show r.kids.length - (j + 1) < r.kids.length - j; omega) (by repeat' (first | exact True.intro | refine And.intro rfl ?_)) (by dsimp only; rw [hnx, htk, List.flatten_append]; rfl)
      · refine TL_callB [0] [1, 2, 3, 4, 5] (by decide) rfl rfl (he2 EntersC.en rfl rfl rfl) (fun w hm hb => IH e (by omega) (.slice bj m cj) q w _ hkk hkr (by omega) (ho.on hm (by intro o ho; simp at ho ⊢; simp [ho])) hb) rfl rfl rfl ?_
        rintro ⟨vm, F2⟩ _
        conv => arg 8; simp only [zA, zB, zC, zD, zE, zF, zG, zH, zI, rowS, ret, id_eq, numSp]
        refine TL_know (i := 6) (φ := vm.oneCell' = true ∧ vm.cells = #[vm]) rfl (fun w h => nkO_one h) fun hvm => ?_
        refine TW_on (sub_pick [4] (by decide) rfl) ?_
        refine TW_two rfl rfl ?_ ?_
        · refine TL_val (rr_load1 TyC.ty rfl (at_blk (i := 1) rfl (v := v) rfl)) rfl rfl rfl (TW_on (sub_pick [4] (by decide) rfl) ?_)
          refine TW_one rfl (TL_one (cs := (numC e q (.slice bj m cj) vm).toArray) rfl rfl rfl rfl rfl fun g30 => ?_)
          conv => arg 8; simp only [zA, zB, zC, zD, zE, zF, zG, zH, zI, rowS, ret, id_eq]
          refine TW_on (sub_pick [4] (by decide) rfl) ?_
          refine TW_one rfl ?_
          refine TL_app1 (i := 2) (q := 7) rfl rfl rfl rfl rfl (numC_one rfl hvm.1) (by omega) (by omega) rfl fun v' => ?_
          conv => arg 8; simp only [zA, zB, zC, zD, zE, zF, zG, zH, zI, rowS, ret, id_eq]
          refine TL_slv (i := 2) rfl fun hv1 hv2 => ?_
          refine TW_on (sub_pick [4] (by decide) rfl) ?_
          repeat (first
            | ((first | refine TW_plain rfl rfl ?_ | refine TW_gmet rfl rfl rfl rfl ?_); first | refine TN_val (qp rfl) rfl rfl ?_ | refine TN_val (qlen Und.eq rfl) rfl rfl ?_ | refine TN_val (qfld FldC.fld rfl rfl) rfl rfl ?_ | refine TN_val (rr_nilc rfl) rfl rfl ?_ | refine TN_val (rr_lss rfl rfl (qT (by omega))) rfl rfl ?_ | refine TN_val (rr_lss rfl rfl (qF (by omega))) rfl rfl ?_ | refine TN_val (rr_add64 rfl rfl (by omega) (by omega) rfl) rfl rfl ?_)
            | refine TW_done ?_)
          refine TW_one rfl (TL_store1 (i := 1) rfl rfl rfl hv1 hv2 rfl ?_)
          conv => arg 8; simp only [zA, zB, zC, zD, zE, zF, zG, zH, zI, rowS, ret, id_eq]
          refine TW_on (sub_pick [4] (by decide) rfl) ?_
          repeat (first
            | ((first | refine TW_plain rfl rfl ?_ | refine TW_gmet rfl rfl rfl rfl ?_); first | refine TN_val (qp rfl) rfl rfl ?_ | refine TN_val (qlen Und.eq rfl) rfl rfl ?_ | refine TN_val (qfld FldC.fld rfl rfl) rfl rfl ?_ | refine TN_val (rr_nilc rfl) rfl rfl ?_ | refine TN_val (rr_lss rfl rfl (qT (by omega))) rfl rfl ?_ | refine TN_val (rr_lss rfl rfl (qF (by omega))) rfl rfl ?_ | refine TN_val (rr_add64 rfl rfl (by omega) (by omega) rfl) rfl rfl ?_)
            | refine TW_done ?_)
          repeat (first
            | refine qv rfl (qp rfl) rfl rfl ?_ | refine TL_nil ?_ | refine T_seq ?_ | refine T_region ?_ | refine qcT rfl ?_ | refine qcF rfl ?_ | refine T_skip ?_
            | refine T_exit ?_ | refine T_ret ?_ | refine T_block ?_ | refine E_then ?_ | refine E_thenX ?_ | refine E_thenR ?_ | refine E_blockN ?_
            | refine E_blockR ?_ | refine E_blockX ?_ | refine E_blockO rfl ?_ | refine qv rfl (qlen Und.eq rfl) rfl rfl ?_
            | refine qv rfl (qfld FldC.fld rfl rfl) rfl rfl ?_ | refine qv rfl (rr_nilc rfl) rfl rfl ?_ | refine qv rfl (rr_lss rfl rfl (qT (by omega))) rfl rfl ?_
            | refine qv rfl (rr_lss rfl rfl (qF (by omega))) rfl rfl ?_ | refine qv rfl (rr_add64 rfl rfl (by omega) (by omega) rfl) rfl rfl ?_)
          refine E_merge (elsO numS (fun k => F k ∨ F2 k) (css ++ [numC e q (.slice bj m cj) vm]) ((kidsK r n).take j ++ [(e, q)])) 6 3 [5, 0, 1, 2] (by decide) rfl rfl rfl (fun k hk => hk.elim (fun h => by cases h) fun h => h.elim (fun h => .inr (.inr h)) fun h => .inl (.inr h)) (fun w hk he => ?_) ?_
          · obtain ⟨⟨v'', hv, h5⟩, h6⟩ := hk
            simp only [List.cons.injEq, and_true] at hv
            subst hv
            exact els_snoc he (num_iff.2 ⟨_, vm, rfl, rfl, h5⟩) h6
          exact E_round (j + 1, v', css ++ [numC e q (.slice bj m cj) vm], fun k => F k ∨ F2 k) ⟨by show j + 1 ≤ r.kids.length; omega, hv2⟩ (by show r.kids.length - (j + 1) < r.kids.length - j; omega) (by repeat' (first | exact True.intro | refine And.intro rfl ?_)) (by dsimp only; rw [hnx, htk, List.flatten_append]; rfl)
        · refine TL_one (cs := (numC e q (.slice bj m cj) vm).toArray) rfl rfl rfl rfl rfl fun g30 => ?_
          conv => arg 8; simp only [zA, zB, zC, zD, zE, zF, zG, zH, zI, rowS, ret, id_eq]
          refine TW_on (sub_pick [4] (by decide) rfl) ?_
          refine TW_one rfl (TL_val (rr_load1 TyC.ty rfl (at_blk (i := 1) rfl (v := v) rfl)) rfl rfl rfl (TW_on (sub_pick [4] (by decide) rfl) ?_))
          refine TW_one rfl ?_
          refine TL_app1 (i := 2) (q := 7) rfl rfl rfl rfl rfl (numC_one rfl hvm.1) (by omega) (by omega) rfl fun v' => ?_
          conv => arg 8; simp only [zA, zB, zC, zD, zE, zF, zG, zH, zI, rowS, ret, id_eq]
          refine TL_slv (i := 2) rfl fun hv1 hv2 => ?_
          refine TW_on (sub_pick [4] (by decide) rfl) ?_
          repeat (first
            | ((first | refine TW_plain rfl rfl ?_ | refine TW_gmet rfl rfl rfl rfl ?_); first | refine TN_val (qp rfl) rfl rfl ?_ | refine TN_val (qlen Und.eq rfl) rfl rfl ?_ | refine TN_val (qfld FldC.fld rfl rfl) rfl rfl ?_ | refine TN_val (rr_nilc rfl) rfl rfl ?_ | refine TN_val (rr_lss rfl rfl (qT (by omega))) rfl rfl ?_ | refine TN_val (rr_lss rfl rfl (qF (by omega))) rfl rfl ?_ | refine TN_val (rr_add64 rfl rfl (by omega) (by omega) rfl) rfl rfl ?_)
            | refine TW_done ?_)
          refine TW_one rfl (TL_store1 (i := 1) rfl rfl rfl hv1 hv2 rfl ?_)
          conv => arg 8; simp only [zA, zB, zC, zD, zE, zF, zG, zH, zI, rowS, ret, id_eq]
          refine TW_on (sub_pick [4] (by decide) rfl) ?_
          repeat (first
            | ((first | refine TW_plain rfl rfl ?_ | refine TW_gmet rfl rfl rfl rfl ?_); first | refine TN_val (qp rfl) rfl rfl ?_ | refine TN_val (qlen Und.eq rfl) rfl rfl ?_ | refine TN_val (qfld FldC.fld rfl rfl) rfl rfl ?_ | refine TN_val (rr_nilc rfl) rfl rfl ?_ | refine TN_val (rr_lss rfl rfl (qT (by omega))) rfl rfl ?_ | refine TN_val (rr_lss rfl rfl (qF (by omega))) rfl rfl ?_ | refine TN_val (rr_add64 rfl rfl (by omega) (by omega) rfl) rfl rfl ?_)
            | refine TW_done ?_)
          repeat (first
            | refine qv rfl (qp rfl) rfl rfl ?_ | refine TL_nil ?_ | refine T_seq ?_ | refine T_region ?_ | refine qcT rfl ?_ | refine qcF rfl ?_ | refine T_skip ?_
            | refine T_exit ?_ | refine T_ret ?_ | refine T_block ?_ | refine E_then ?_ | refine E_thenX ?_ | refine E_thenR ?_ | refine E_blockN ?_
            | refine E_blockR ?_ | refine E_blockX ?_ | refine E_blockO rfl ?_ | refine qv rfl (qlen Und.eq rfl) rfl rfl ?_
            | refine qv rfl (qfld FldC.fld rfl rfl) rfl rfl ?_ | refine qv rfl (rr_nilc rfl) rfl rfl ?_ | refine qv rfl (rr_lss rfl rfl (qT (by omega))) rfl rfl ?_
            | refine qv rfl (rr_lss rfl rfl (qF (by omega))) rfl rfl ?_ | refine qv rfl (rr_add64 rfl rfl (by omega) (by omega) rfl) rfl rfl ?_)
          refine E_merge (elsO numS (fun k => F k ∨ F2 k) (css ++ [numC e q (.slice bj m cj) vm]) ((kidsK r n).take j ++ [(e, q)])) 6 3 [5, 0, 1, 2] (by decide) rfl rfl rfl (fun k hk => hk.elim (fun h => by cases h) fun h => h.elim (fun h => .inr (.inr h)) fun h => .inl (.inr h)) (fun w hk he => ?_) ?_
          · obtain ⟨⟨v'', hv, h5⟩, h6⟩ := hk
            simp only [List.cons.injEq, and_true] at hv
            subst hv
            exact els_snoc he (num_iff.2 ⟨_, vm, rfl, rfl, h5⟩) h6
          exact E_round (j + 1, v', css ++ [numC e q (.slice bj m cj) vm], fun k => F k ∨ F2 k) ⟨by show j + 1 ≤ r.kids.length; omega, hv2⟩ (by show r.kids.length - (j + 1) < r.kids.length - j; omega) (by repeat' (first | exact True.intro | refine And.intro rfl ?_)) (by dsimp only; rw [hnx, htk, List.flatten_append]; rfl)
    · obtain rfl : j = r.kids.length := by omega
      rw [List.take_of_length_le (by rw [kidsK_len]; omega), nJ_all]
      repeat (first
        | refine qv rfl (qp rfl) rfl rfl ?_ | refine TL_nil ?_ | refine T_seq ?_ | refine T_region ?_ | refine qcT rfl ?_ | refine qcF rfl ?_ | refine T_skip ?_
        | refine T_exit ?_ | refine T_ret ?_ | refine T_block ?_ | refine E_then ?_ | refine E_thenX ?_ | refine E_thenR ?_ | refine E_blockN ?_
        | refine E_blockR ?_ | refine E_blockX ?_ | refine E_blockO rfl ?_ | refine qv rfl (rr_loadB (i := 2) TyC.ty rfl rfl rfl) rfl rfl ?_
        | refine qv rfl (qlen Und.eq rfl) rfl rfl ?_ | refine qv rfl (qfld FldC.fld rfl rfl) rfl rfl ?_ | refine qv rfl (rr_nilc rfl) rfl rfl ?_
        | refine qv rfl (rr_lss rfl rfl (qT (by omega))) rfl rfl ?_ | refine qv rfl (rr_lss rfl rfl (qF (by omega))) rfl rfl ?_
        | refine qv rfl (rr_add64 rfl rfl (by omega) (by omega) rfl) rfl rfl ?_)
      refine TL_storeB (i := 1) (cs' := (numC r n (.slice bk r.kids.length ck) v).toArray) rfl rfl rfl rfl (numC_one rfl i2) rfl ?_
      conv => arg 8; simp only [zA, zB, zC, zD, zE, zF, zG, zH, zI, rowS, ret, id_eq]
      repeat (first
        | refine qv rfl (qp rfl) rfl rfl ?_ | refine TL_nil ?_ | refine T_seq ?_ | refine T_region ?_ | refine qcT rfl ?_ | refine qcF rfl ?_ | refine T_skip ?_
        | refine T_exit ?_ | refine T_ret ?_ | refine T_block ?_ | refine E_then ?_ | refine E_thenX ?_ | refine E_thenR ?_ | refine E_blockN ?_
        | refine E_blockR ?_ | refine E_blockX ?_ | refine E_blockO rfl ?_ | refine qv rfl (qlen Und.eq rfl) rfl rfl ?_
        | refine qv rfl (qfld FldC.fld rfl rfl) rfl rfl ?_ | refine qv rfl (rr_nilc rfl) rfl rfl ?_ | refine qv rfl (rr_lss rfl rfl (qT (by omega))) rfl rfl ?_
        | refine qv rfl (rr_lss rfl rfl (qF (by omega))) rfl rfl ?_ | refine qv rfl (rr_add64 rfl rfl (by omega) (by omega) rfl) rfl rfl ?_)
      refine E_merge (nkO (Or1 F v) v (kidsK r n)) 3 4 [0, 1, 2] (by decide) rfl rfl rfl (fun k hk => ?_) (fun w hk he => ?_) ?_
      · rcases hk with hk | hk | hk
        · cases hk
        · exact .inr (.inr hk)
        · exact .inl (.inl hk)
      · have hl : (kidsK r n).length = r.kids.length := kidsK_len r n
        rw [← hl] at hk
        exact ⟨⟨v, rfl, slf_of hk he (by decide)⟩, slO_lt hk he⟩
      refine E_retc1 (i := 1) rfl rfl rfl rfl fun w hm => ?_
      exact hm.meetsB (S := numSp gn r n (.slice bk r.kids.length ck)) (v, Or1 F v) trivial [0, 3] (by decide) rfl
end Go.Proofs.YtbiacehgfmgfdaaDoor.eng
