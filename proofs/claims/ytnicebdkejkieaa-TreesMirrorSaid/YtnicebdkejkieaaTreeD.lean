/- What pushkeep.mirrored computes. -/
import Derived.Test.YtnicebdkejkieaaTreeC
namespace Go.Proofs.Ytnicebdkejkieaa.treeL
open gramL
theorem mir_ok {l : List gramL.Prod} {t : Tree} {x : Sym} {u n : Nat} (h : Right l t x u) (hn : u + leaves t ≤ n) (hn2 : n ≤ 100000) (hl : l.length ≤ 40) : kit.okI64 (mirT n t).prod ∧ kit.okI64 (mirT n t).tok := by
  obtain ⟨p, k, kids⟩ := t
  rw [Right] at h
  rw [leaves] at hn
  rw [mirT]
  rcases h with ⟨a1, a2, a3, a4⟩ | ⟨a1, a2, a3, a4, a5, a6⟩
  · rw [if_pos (by omega)] at hn ⊢
    exact ⟨(⟨by decide, by decide⟩ : kit.okI64 (-1)), ⟨by show _ ≤ (n : Int) - 1 - k; omega, by show (n : Int) - 1 - k ≤ _; omega⟩⟩
  · rw [if_neg (by omega)]
    exact ⟨⟨by show _ ≤ p; omega, by show p ≤ _; omega⟩, (⟨by decide, by decide⟩ : kit.okI64 0)⟩
theorem len_sizes : ∀ (ks : List Tree), ks.length ≤ sizes ks
  | [] => Nat.zero_le _
  | k :: r => by
    rw [sizes, List.length_cons]
    have := size_pos k
    have := len_sizes r
    omega
theorem leavess_at : ∀ {ks : List Tree} {l : List gramL.Prod} {b : List Sym} {v : Nat}, Rights l ks b v → ∀ (i : Nat) (h : i < ks.length) (h' : i < b.length), ∃ u, Right l ks[i] b[i] u ∧ u + leaves ks[i] ≤ v + leavess ks
  | [], _, _, _, _, i, h, _ => by simp at h
  | _ :: _, _, [], _, _, i, _, h => by simp at h
  | k :: r, l, y :: b, v, hr, 0, _, _ => by rw [Rights] at hr; rw [leavess]; exact ⟨v, hr.1, by simp⟩
  | k :: r, l, y :: b, v, hr, i + 1, h, h' => by
    rw [Rights] at hr
    obtain ⟨u, h1, h2⟩ := leavess_at hr.2 i (by simpa using h) (by simpa using h')
    rw [leavess]
    exact ⟨u, h1, by simp; omega⟩
end Go.Proofs.Ytnicebdkejkieaa.treeL
namespace Go.Proofs.Ytnicebdkejkieaa.eng
open Go.RowKit kit mix gramL treeL
set_option maxRecDepth 100000 in
attribute [local irreducible] Instr.build in
set_option maxHeartbeats 16000000 in
theorem mirrored_calls (l : List gramL.Prod) (nn : Nat) (hnn : nn ≤ 100000) (hl40 : l.length ≤ 40) : ∀ (N : Nat) (tr : Tree), size tr ≤ N → ∀ (vt : Value) (x : Sym) (u : Nat) (w : World), TreeR (fun k => k < w.heap.size) w vt tr → Right l tr x u → u + leaves tr ≤ nn → size tr ≤ 1000 →
    Calls Try.prog 31 #[vt, .int .i64 (nn : Int)] w (Meets (treeSp (mirT nn tr)) w)
  | 0, tr, h, _, _, _, _, _, _, _, _ => by have := size_pos tr; omega
  | N + 1, .mk p k kids, hN, vt, x, u, w, hv, hR, hu, hz => by
    have IH := mirrored_calls l nn hnn hl40 N
    obtain ⟨vk, rfl, hp64, hk64, hks⟩ := hv
    dsimp only [Tree.prod, Tree.tok, Tree.kids] at hp64 hk64 hks ⊢
    have hks0 := hks
    obtain ⟨bk, ck, rfl, hck, hmk, hrk⟩ := hks
    unfold maxLen at hmk
    rw [size] at hN hz
    have hkz := len_sizes kids
    rw [leaves] at hu
    rw [Right] at hR
    rw [mirT]
    by_cases c0 : p < 0
    · rw [if_pos c0] at hu ⊢
      have hk0 : 0 ≤ k ∧ k < 100000 := by
        rcases hR with ⟨_, _, h, _⟩ | ⟨_, h, _⟩ <;> omega
      refine enter (args := [treeV p k (.slice bk kids.length ck), .int .i64 (nn : Int)]) (n := 40) Try.func31 rfl rfl rfl ?_
      refine T_seq (T_region (TL_box rfl rfl rfl fun g2 => TL_new rfl fun g4 => ?_))
      conv => arg 8; simp only [List.cons_append, List.nil_append, List.append_nil, List.filterMap_cons, List.filterMap_nil, List.getElem?_cons_succ, List.getElem?_cons_zero, List.set_cons_zero, List.set_cons_succ, rowS, ret, id_eq]
      repeat (first
        | refine TL_valg rfl (rr_move rfl) rfl rfl ?_
        | refine TL_valg rfl (rr_assign rfl) rfl rfl ?_
        | refine TL_nil ?_
        | refine T_seq ?_
        | refine T_region ?_
        | refine T_condT rfl ?_
        | refine T_condF rfl ?_
        | refine T_skip ?_
        | refine T_exit ?_
        | refine T_ret ?_
        | refine T_block ?_
        | refine E_then ?_
        | refine E_thenX ?_
        | refine E_thenR ?_
        | refine E_blockN ?_
        | refine E_blockR ?_
        | refine E_blockX ?_
        | refine E_blockO rfl ?_
        | refine TL_valg rfl (rr_load1 TyC.ty rfl (at_blk (i := 0) rfl rfl)) rfl rfl ?_
        | refine TL_valg rfl (rr_build rfl (build_tree2 _ _)) rfl rfl ?_
        | refine TL_valg rfl (rr_len Und.eq rfl) rfl rfl ?_
        | refine TL_valg rfl (rr_field FldC.fld rfl rfl) rfl rfl ?_
        | refine TL_valg rfl (rr_lss rfl rfl (decide_eq_true (by omega))) rfl rfl ?_
        | refine TL_valg rfl (rr_lss rfl rfl (decide_eq_false (by omega))) rfl rfl ?_
        | refine TL_valg rfl (rr_geq rfl rfl (decide_eq_true (by omega))) rfl rfl ?_
        | refine TL_valg rfl (rr_geq rfl rfl (decide_eq_false (by omega))) rfl rfl ?_
        | refine TL_valg rfl (rr_sub64 rfl rfl (by omega) (by omega) rfl) rfl rfl ?_)
      refine TL_storeB (i := 1) rfl rfl rfl rfl rfl rfl ?_
      conv => arg 8; simp only [List.cons_append, List.nil_append, List.append_nil, List.filterMap_cons, List.filterMap_nil, List.getElem?_cons_succ, List.getElem?_cons_zero, List.set_cons_zero, List.set_cons_succ, rowS, ret, id_eq]
      repeat (first
        | refine TL_valg rfl (rr_move rfl) rfl rfl ?_
        | refine TL_valg rfl (rr_assign rfl) rfl rfl ?_
        | refine TL_nil ?_
        | refine T_seq ?_
        | refine T_region ?_
        | refine T_condT rfl ?_
        | refine T_condF rfl ?_
        | refine T_skip ?_
        | refine T_exit ?_
        | refine T_ret ?_
        | refine T_block ?_
        | refine E_then ?_
        | refine E_thenX ?_
        | refine E_thenR ?_
        | refine E_blockN ?_
        | refine E_blockR ?_
        | refine E_blockX ?_
        | refine E_blockO rfl ?_
        | refine TL_valg rfl (rr_len Und.eq rfl) rfl rfl ?_
        | refine TL_valg rfl (rr_field FldC.fld rfl rfl) rfl rfl ?_
        | refine TL_valg rfl (rr_lss rfl rfl (decide_eq_true (by omega))) rfl rfl ?_
        | refine TL_valg rfl (rr_lss rfl rfl (decide_eq_false (by omega))) rfl rfl ?_
        | refine TL_valg rfl (rr_geq rfl rfl (decide_eq_true (by omega))) rfl rfl ?_
        | refine TL_valg rfl (rr_geq rfl rfl (decide_eq_false (by omega))) rfl rfl ?_
        | refine TL_valg rfl (rr_sub64 rfl rfl (by omega) (by omega) rfl) rfl rfl ?_)
      refine E_extra (kidsO (fun _ => False) (.slice none 0 0) []) (fun k hk => hk.elim (fun h => by cases h) id) kidsO_nil ?_
      exact E_retc1 (i := 1) rfl rfl rfl rfl fun w hm => hm.meets (S := treeSp (.mk (-1) ((nn : Int) - 1 - k) [])) (.slice none 0 0, fun _ => False) trivial [2] (by decide) rfl
    · rw [if_neg c0] at hu ⊢
      obtain ⟨r1, r2, r3, r4, r5, r6⟩ : x.1 ≠ 1 ∧ 0 ≤ p ∧ p < (l.length : Int) ∧ (prodAt l p).1 = x.2 ∧ k = 0 ∧ Rights l kids (prodAt l p).2 u := by
        rcases hR with ⟨_, h, _⟩ | h
        · omega
        · exact h
      clear hR
      have hkl := rights_len r6
      have hall := leavess_at r6
      generalize (prodAt l p).2 = body at *
      have hml := mirs_map (nn : Int) kids
      have hmlen : (mirs (nn : Int) kids).length = kids.length := by rw [hml]; simp
      have hmget : ∀ (j : Nat) (h : j < kids.length), (mirs (nn : Int) kids)[j]? = some (mirT nn (kids[kids.length - 1 - j]'(by clear hmlen hml; omega))) := fun j h => by
        rw [hml, List.getElem?_reverse (by simpa using h), List.length_map, List.getElem?_map, List.getElem?_eq_getElem (by omega)]; rfl
      generalize mirs (nn : Int) kids = R at *
      refine enter (args := [treeV p k (.slice bk kids.length ck), .int .i64 (nn : Int)]) (n := 40) Try.func31 rfl rfl rfl ?_
      refine T_seq (T_region (TL_box rfl rfl rfl fun g2 => TL_new rfl fun g4 => ?_))
      conv => arg 8; simp only [List.cons_append, List.nil_append, List.append_nil, List.filterMap_cons, List.filterMap_nil, List.getElem?_cons_succ, List.getElem?_cons_zero, List.set_cons_zero, List.set_cons_succ, rowS, ret, id_eq]
      repeat (first
        | refine TL_valg rfl (rr_move rfl) rfl rfl ?_
        | refine TL_valg rfl (rr_assign rfl) rfl rfl ?_
        | refine TL_nil ?_
        | refine T_seq ?_
        | refine T_region ?_
        | refine T_condT rfl ?_
        | refine T_condF rfl ?_
        | refine T_skip ?_
        | refine T_exit ?_
        | refine T_ret ?_
        | refine T_block ?_
        | refine E_then ?_
        | refine E_thenX ?_
        | refine E_thenR ?_
        | refine E_blockN ?_
        | refine E_blockR ?_
        | refine E_blockX ?_
        | refine E_blockO rfl ?_
        | refine TL_valg rfl (rr_load1 TyC.ty rfl (at_blk (i := 0) rfl rfl)) rfl rfl ?_
        | refine TL_valg rfl (rr_build rfl (build_tree1 _)) rfl rfl ?_
        | refine TL_valg rfl (rr_len Und.eq rfl) rfl rfl ?_
        | refine TL_valg rfl (rr_field FldC.fld rfl rfl) rfl rfl ?_
        | refine TL_valg rfl (rr_lss rfl rfl (decide_eq_true (by omega))) rfl rfl ?_
        | refine TL_valg rfl (rr_lss rfl rfl (decide_eq_false (by omega))) rfl rfl ?_
        | refine TL_valg rfl (rr_geq rfl rfl (decide_eq_true (by omega))) rfl rfl ?_
        | refine TL_valg rfl (rr_geq rfl rfl (decide_eq_false (by omega))) rfl rfl ?_
        | refine TL_valg rfl (rr_sub64 rfl rfl (by omega) (by omega) rfl) rfl rfl ?_)
      refine TL_new rfl fun g5 => ?_
      refine TL_storeB (i := 2) rfl rfl rfl rfl rfl rfl ?_
      conv => arg 8; simp only [List.cons_append, List.nil_append, List.append_nil, List.filterMap_cons, List.filterMap_nil, List.getElem?_cons_succ, List.getElem?_cons_zero, List.set_cons_zero, List.set_cons_succ, rowS, ret, id_eq]
      repeat (first
        | refine TL_valg rfl (rr_move rfl) rfl rfl ?_
        | refine TL_valg rfl (rr_assign rfl) rfl rfl ?_
        | refine TL_nil ?_
        | refine T_seq ?_
        | refine T_region ?_
        | refine T_condT rfl ?_
        | refine T_condF rfl ?_
        | refine T_skip ?_
        | refine T_exit ?_
        | refine T_ret ?_
        | refine T_block ?_
        | refine E_then ?_
        | refine E_thenX ?_
        | refine E_thenR ?_
        | refine E_blockN ?_
        | refine E_blockR ?_
        | refine E_blockX ?_
        | refine E_blockO rfl ?_
        | refine TL_valg rfl (rr_load1 TyC.ty rfl (at_blk (i := 0) rfl rfl)) rfl rfl ?_
        | refine TL_valg rfl (rr_sub64 (r := (kids.length : Int) - 1 - ((0 : Nat) : Int)) rfl rfl (by omega) (by omega) (by omega)) rfl rfl ?_
        | refine TL_valg rfl (rr_len Und.eq rfl) rfl rfl ?_
        | refine TL_valg rfl (rr_field FldC.fld rfl rfl) rfl rfl ?_
        | refine TL_valg rfl (rr_lss rfl rfl (decide_eq_true (by omega))) rfl rfl ?_
        | refine TL_valg rfl (rr_lss rfl rfl (decide_eq_false (by omega))) rfl rfl ?_
        | refine TL_valg rfl (rr_geq rfl rfl (decide_eq_true (by omega))) rfl rfl ?_
        | refine TL_valg rfl (rr_geq rfl rfl (decide_eq_false (by omega))) rfl rfl ?_
        | refine TL_valg rfl (rr_sub64 rfl rfl (by omega) (by omega) rfl) rfl rfl ?_)
      refine T_nil 46 3 (T_extra (elsO treeS (fun _ => False) [] []) (fun k hk => hk.elim (fun h => by cases h) id) (fun w => els_nil) ?_)
      refine T_loop (ι := Nat × Value × List (List Value) × (Nat → Prop)) (fun (j, v, css, _) => j ≤ kids.length ∧ v.oneCell' = true) (fun (j, v, _, _) => [(1, .int .i64 (nn : Int)), (2, .pointer (some ⟨g2, 0, none⟩)), (4, .pointer (some ⟨g4, 0, none⟩)), (5, .pointer (some ⟨g5, 0, none⟩)), (6, .int .i64 ((kids.length : Int) - 1 - (j : Int)))])
        (fun (j, v, css, F) => [blkO g2 (treeV p k (.slice bk kids.length ck)).cells 46, blkO g4 #[.int .i64 0, .int .i64 0, .slice none 0 0] 46, blkO g5 (treeV p 0 v).cells 46, rowO 46 3 v j css.flatten, elsO treeS F css (R.take j)]) (fun (j, _, _, _) => kids.length - j) (0, .slice none 0 0, [], fun _ => False) ⟨Nat.zero_le _, rfl⟩ (by repeat' (first | exact True.intro | refine And.intro rfl ?_)) rfl ?_
      rintro ⟨j, v, css, F⟩ ⟨i1, i2⟩
      dsimp only at i1 i2 ⊢
      by_cases c7 : j < kids.length
      · obtain ⟨bk2, offk, rfl, _, hrkk⟩ := hrk (by omega)
        obtain ⟨i, hi⟩ : ∃ i, i = kids.length - 1 - j := ⟨_, rfl⟩
        have hil : i < kids.length := by omega
        have c8 : i < body.length := by omega
        obtain ⟨kb, kc, y1, y2⟩ := kid_at hrkk hil
        obtain ⟨uu, h3, h4⟩ := hall i hil c8
        have hRj := hmget j c7
        have htk : R.take (j + 1) = R.take j ++ [mirT nn kids[i]] := by
          subst hi
          rw [List.take_add_one, hRj]; rfl
        have hatk : ∀ (L : List Own) (j : Nat) (v : Value), ([.int .i64 kids[i].prod, .int .i64 kids[i].tok, .slice kb kids[i].kids.length kc] : List Value)[j]? = some v → At w L ⟨bk2, offk + i * 3 + j, none⟩ v := fun L j v hj => at_rd y1 hj
        have hszk : size kids[i] ≤ N := by have := size_mem kids i hil; omega
        have IHk := fun w' (hg : Gr w w') => IH kids[i] hszk (treeV kids[i].prod kids[i].tok (.slice kb kids[i].kids.length kc)) body[i] uu w' (y2.gr hg) h3 (by omega) (by have := size_mem kids i hil; omega)
        have hok := mir_ok (n := nn) h3 (by omega) hnn hl40
        have ei : (kids.length : Int) - 1 - (j : Int) = (i : Int) := by omega
        clear hrkk y1 IH hall hRj hmget y2
        generalize mirT (nn : Int) kids[i] = m at *
        obtain ⟨mp, mk, mks⟩ := m
        dsimp only [Tree.prod, Tree.tok] at hok
        generalize kids[i] = kt at *
        obtain ⟨kp, kk, kk2⟩ := kt
        dsimp only [Tree.prod, Tree.tok, Tree.kids] at *
        repeat (first
          | refine TL_valg rfl (rr_move rfl) rfl rfl ?_
          | refine TL_valg rfl (rr_assign rfl) rfl rfl ?_
          | refine TL_nil ?_
          | refine T_seq ?_
          | refine T_region ?_
          | refine T_condT rfl ?_
          | refine T_condF rfl ?_
          | refine T_skip ?_
          | refine T_exit ?_
          | refine T_ret ?_
          | refine T_block ?_
          | refine E_then ?_
          | refine E_thenX ?_
          | refine E_thenR ?_
          | refine E_blockN ?_
          | refine E_blockR ?_
          | refine E_blockX ?_
          | refine E_blockO rfl ?_
          | refine TL_valg rfl (rr_len Und.eq rfl) rfl rfl ?_
          | refine TL_valg rfl (rr_field FldC.fld rfl rfl) rfl rfl ?_
          | refine TL_valg rfl (rr_lss rfl rfl (decide_eq_true (by omega))) rfl rfl ?_
          | refine TL_valg rfl (rr_lss rfl rfl (decide_eq_false (by omega))) rfl rfl ?_
          | refine TL_valg rfl (rr_geq rfl rfl (decide_eq_true (by omega))) rfl rfl ?_
          | refine TL_valg rfl (rr_geq rfl rfl (decide_eq_false (by omega))) rfl rfl ?_
          | refine TL_valg rfl (rr_sub64 rfl rfl (by omega) (by omega) rfl) rfl rfl ?_)
        rw [ei]
        refine T_ord ([blkO g2 (treeV p k (.slice (some ⟨bk2, offk, none⟩) kids.length ck)).cells 46]) (.calm 0 (.calm 2 (.calm 3 (.calm 4 (.calm 5 (.calm 6 (.calm 7 (.two 1 (.one 8 (.one 9 (.one 10 (.calm 11 (.one 12 (.done)))))) 8 (.two 1 (.one 9 (.one 10 (.calm 11 (.one 12 (.done))))) 9 (.one 1 (.one 10 (.calm 11 (.one 12 (.done)))))))))))))) (sub_pick [0] (by decide) rfl) (by kernel_rfl) (by kernel_rfl) (by intro c a d v w h; cases d <;> exact h) ?_
        repeat (first
          | ((first | refine TW_plain rfl rfl ?_ | refine TW_gmet rfl rfl rfl rfl ?_); (first
              | refine TN_val (rr_move rfl) rfl rfl ?_
              | refine TN_val (rr_assign rfl) rfl rfl ?_
              | refine TN_val (rr_load1 TyC.ty rfl (at_blk (i := 0) rfl rfl)) rfl rfl ?_
              | refine TN_val (rr_idxc Und.eq TyC.ty rfl rfl hil) rfl rfl ?_
              | refine TN_val (rr_loadN TyC.ty rfl rfl (hatk _)) rfl rfl ?_
              | refine TN_val (rr_len Und.eq rfl) rfl rfl ?_
              | refine TN_val (rr_field FldC.fld rfl rfl) rfl rfl ?_
              | refine TN_val (rr_lss rfl rfl (decide_eq_true (by omega))) rfl rfl ?_
              | refine TN_val (rr_lss rfl rfl (decide_eq_false (by omega))) rfl rfl ?_
              | refine TN_val (rr_geq rfl rfl (decide_eq_true (by omega))) rfl rfl ?_
              | refine TN_val (rr_geq rfl rfl (decide_eq_false (by omega))) rfl rfl ?_
              | refine TN_val (rr_sub64 rfl rfl (by omega) (by omega) rfl) rfl rfl ?_))
          | refine TW_done ?_)
        refine TW_two rfl rfl ?_ ?_
        · refine TL_val (rr_load1 TyC.ty rfl (at_blk (i := 2) rfl rfl)) rfl rfl rfl (TW_on (sub_pick [0] (by decide) rfl) ?_)
          refine TW_one rfl ?_
          refine TL_call (he2 EntersC.en rfl rfl rfl) (fun w' hm => IHk w' hm.below) rfl rfl rfl ?_
          rintro ⟨vm, F2⟩ _
          conv => arg 8; simp only [List.cons_append, List.nil_append, List.append_nil, List.filterMap_cons, List.filterMap_nil, List.getElem?_cons_succ, List.getElem?_cons_zero, List.set_cons_zero, List.set_cons_succ, rowS, ret, id_eq, treeSp]
          refine TW_on (sub_pick [0] (by decide) rfl) ?_
          refine TW_one rfl ?_
          refine TL_one (cs := #[.int .i64 mp, .int .i64 mk, vm]) rfl rfl rfl rfl rfl fun g36 => ?_
          conv => arg 8; simp only [List.cons_append, List.nil_append, List.append_nil, List.filterMap_cons, List.filterMap_nil, List.getElem?_cons_succ, List.getElem?_cons_zero, List.set_cons_zero, List.set_cons_succ, rowS, ret, id_eq]
          refine TW_on (sub_pick [0] (by decide) rfl) ?_
          refine TW_one rfl ?_
          refine TL_know (i := 5) (φ := vm.oneCell' = true ∧ vm.cells = #[vm]) rfl (fun w h => kidsO_one h) fun hvm => ?_
          refine TL_app1 (i := 3) (q := 6) rfl rfl rfl rfl rfl (by simp [hvm.1]; exact ⟨rfl, rfl⟩) (by omega) (by omega) rfl fun v' => ?_
          conv => arg 8; simp only [List.cons_append, List.nil_append, List.append_nil, List.filterMap_cons, List.filterMap_nil, List.getElem?_cons_succ, List.getElem?_cons_zero, List.set_cons_zero, List.set_cons_succ, rowS, ret, id_eq]
          refine TL_slv (i := 3) rfl fun hv1 hv2 => ?_
          refine TW_on (sub_pick [0] (by decide) rfl) ?_
          repeat (first
            | ((first | refine TW_plain rfl rfl ?_ | refine TW_gmet rfl rfl rfl rfl ?_); (first
                | refine TN_val (rr_move rfl) rfl rfl ?_
                | refine TN_val (rr_assign rfl) rfl rfl ?_
                | refine TN_val (rr_len Und.eq rfl) rfl rfl ?_
                | refine TN_val (rr_field FldC.fld rfl rfl) rfl rfl ?_
                | refine TN_val (rr_lss rfl rfl (decide_eq_true (by omega))) rfl rfl ?_
                | refine TN_val (rr_lss rfl rfl (decide_eq_false (by omega))) rfl rfl ?_
                | refine TN_val (rr_geq rfl rfl (decide_eq_true (by omega))) rfl rfl ?_
                | refine TN_val (rr_geq rfl rfl (decide_eq_false (by omega))) rfl rfl ?_
                | refine TN_val (rr_sub64 rfl rfl (by omega) (by omega) rfl) rfl rfl ?_))
            | refine TW_done ?_)
          refine TW_one rfl (TL_store1 (i := 2) rfl rfl rfl hv1 hv2 rfl ?_)
          conv => arg 8; simp only [List.cons_append, List.nil_append, List.append_nil, List.filterMap_cons, List.filterMap_nil, List.getElem?_cons_succ, List.getElem?_cons_zero, List.set_cons_zero, List.set_cons_succ, rowS, ret, id_eq]
          refine TW_on (sub_pick [0] (by decide) rfl) ?_
          repeat (first
            | ((first | refine TW_plain rfl rfl ?_ | refine TW_gmet rfl rfl rfl rfl ?_); (first
                | refine TN_val (rr_move rfl) rfl rfl ?_
                | refine TN_val (rr_assign rfl) rfl rfl ?_
                | refine TN_val (rr_len Und.eq rfl) rfl rfl ?_
                | refine TN_val (rr_field FldC.fld rfl rfl) rfl rfl ?_
                | refine TN_val (rr_lss rfl rfl (decide_eq_true (by omega))) rfl rfl ?_
                | refine TN_val (rr_lss rfl rfl (decide_eq_false (by omega))) rfl rfl ?_
                | refine TN_val (rr_geq rfl rfl (decide_eq_true (by omega))) rfl rfl ?_
                | refine TN_val (rr_geq rfl rfl (decide_eq_false (by omega))) rfl rfl ?_
                | refine TN_val (rr_sub64 rfl rfl (by omega) (by omega) rfl) rfl rfl ?_))
            | refine TW_done ?_)
          repeat (first
            | refine TL_valg rfl (rr_move rfl) rfl rfl ?_
            | refine TL_valg rfl (rr_assign rfl) rfl rfl ?_
            | refine TL_nil ?_
            | refine T_seq ?_
            | refine T_region ?_
            | refine T_condT rfl ?_
            | refine T_condF rfl ?_
            | refine T_skip ?_
            | refine T_exit ?_
            | refine T_ret ?_
            | refine T_block ?_
            | refine E_then ?_
            | refine E_thenX ?_
            | refine E_thenR ?_
            | refine E_blockN ?_
            | refine E_blockR ?_
            | refine E_blockX ?_
            | refine E_blockO rfl ?_
            | refine TL_valg rfl (rr_sub64 (r := (kids.length : Int) - 1 - ((j + 1 : Nat) : Int)) rfl rfl (by omega) (by omega) (by omega)) rfl rfl ?_
            | refine TL_valg rfl (rr_len Und.eq rfl) rfl rfl ?_
            | refine TL_valg rfl (rr_field FldC.fld rfl rfl) rfl rfl ?_
            | refine TL_valg rfl (rr_lss rfl rfl (decide_eq_true (by omega))) rfl rfl ?_
            | refine TL_valg rfl (rr_lss rfl rfl (decide_eq_false (by omega))) rfl rfl ?_
            | refine TL_valg rfl (rr_geq rfl rfl (decide_eq_true (by omega))) rfl rfl ?_
            | refine TL_valg rfl (rr_geq rfl rfl (decide_eq_false (by omega))) rfl rfl ?_
            | refine TL_valg rfl (rr_sub64 rfl rfl (by omega) (by omega) rfl) rfl rfl ?_)
          refine E_merge (elsO treeS (fun k => F k ∨ F2 k) (css ++ [[.int .i64 mp, .int .i64 mk, vm]]) (R.take j ++ [.mk mp mk mks])) 5 4 [0, 1, 2, 3] (by decide) rfl rfl rfl (fun k hk => hk.elim (fun h => by cases h) fun h => h.elim (fun h => .inr (.inr h)) fun h => .inl (.inr h)) (fun w hk he => ?_) ?_
          · obtain ⟨⟨v'', hv, h5⟩, h6⟩ := hk
            simp only [List.cons.injEq, and_true] at hv
            subst hv
            exact els_snoc he (tree_iff.2 ⟨vm, rfl, hok.1, hok.2, h5⟩) h6
          exact E_round (j + 1, v', css ++ [[.int .i64 mp, .int .i64 mk, vm]], fun k => F k ∨ F2 k) ⟨by omega, hv2⟩ (by show kids.length - (j + 1) < kids.length - j; omega) (by repeat' (first | exact True.intro | refine And.intro rfl ?_)) (by rw [htk, List.flatten_append]; rfl)
        · refine TL_call (he2 EntersC.en rfl rfl rfl) (fun w' hm => IHk w' hm.below) rfl rfl rfl ?_
          rintro ⟨vm, F2⟩ _
          conv => arg 8; simp only [List.cons_append, List.nil_append, List.append_nil, List.filterMap_cons, List.filterMap_nil, List.getElem?_cons_succ, List.getElem?_cons_zero, List.set_cons_zero, List.set_cons_succ, rowS, ret, id_eq, treeSp]
          refine TW_on (sub_pick [0] (by decide) rfl) ?_
          refine TW_two rfl rfl ?_ ?_
          · refine TL_val (rr_load1 TyC.ty rfl (at_blk (i := 2) rfl rfl)) rfl rfl rfl (TW_on (sub_pick [0] (by decide) rfl) ?_)
            refine TW_one rfl ?_
            refine TL_one (cs := #[.int .i64 mp, .int .i64 mk, vm]) rfl rfl rfl rfl rfl fun g36 => ?_
            conv => arg 8; simp only [List.cons_append, List.nil_append, List.append_nil, List.filterMap_cons, List.filterMap_nil, List.getElem?_cons_succ, List.getElem?_cons_zero, List.set_cons_zero, List.set_cons_succ, rowS, ret, id_eq]
            refine TW_on (sub_pick [0] (by decide) rfl) ?_
            refine TW_one rfl ?_
            refine TL_know (i := 5) (φ := vm.oneCell' = true ∧ vm.cells = #[vm]) rfl (fun w h => kidsO_one h) fun hvm => ?_
            refine TL_app1 (i := 3) (q := 6) rfl rfl rfl rfl rfl (by simp [hvm.1]; exact ⟨rfl, rfl⟩) (by omega) (by omega) rfl fun v' => ?_
            conv => arg 8; simp only [List.cons_append, List.nil_append, List.append_nil, List.filterMap_cons, List.filterMap_nil, List.getElem?_cons_succ, List.getElem?_cons_zero, List.set_cons_zero, List.set_cons_succ, rowS, ret, id_eq]
            refine TL_slv (i := 3) rfl fun hv1 hv2 => ?_
            refine TW_on (sub_pick [0] (by decide) rfl) ?_
            repeat (first
              | ((first | refine TW_plain rfl rfl ?_ | refine TW_gmet rfl rfl rfl rfl ?_); (first
                  | refine TN_val (rr_move rfl) rfl rfl ?_
                  | refine TN_val (rr_assign rfl) rfl rfl ?_
                  | refine TN_val (rr_len Und.eq rfl) rfl rfl ?_
                  | refine TN_val (rr_field FldC.fld rfl rfl) rfl rfl ?_
                  | refine TN_val (rr_lss rfl rfl (decide_eq_true (by omega))) rfl rfl ?_
                  | refine TN_val (rr_lss rfl rfl (decide_eq_false (by omega))) rfl rfl ?_
                  | refine TN_val (rr_geq rfl rfl (decide_eq_true (by omega))) rfl rfl ?_
                  | refine TN_val (rr_geq rfl rfl (decide_eq_false (by omega))) rfl rfl ?_
                  | refine TN_val (rr_sub64 rfl rfl (by omega) (by omega) rfl) rfl rfl ?_))
              | refine TW_done ?_)
            refine TW_one rfl (TL_store1 (i := 2) rfl rfl rfl hv1 hv2 rfl ?_)
            conv => arg 8; simp only [List.cons_append, List.nil_append, List.append_nil, List.filterMap_cons, List.filterMap_nil, List.getElem?_cons_succ, List.getElem?_cons_zero, List.set_cons_zero, List.set_cons_succ, rowS, ret, id_eq]
            refine TW_on (sub_pick [0] (by decide) rfl) ?_
            repeat (first
              | ((first | refine TW_plain rfl rfl ?_ | refine TW_gmet rfl rfl rfl rfl ?_); (first
                  | refine TN_val (rr_move rfl) rfl rfl ?_
                  | refine TN_val (rr_assign rfl) rfl rfl ?_
                  | refine TN_val (rr_len Und.eq rfl) rfl rfl ?_
                  | refine TN_val (rr_field FldC.fld rfl rfl) rfl rfl ?_
                  | refine TN_val (rr_lss rfl rfl (decide_eq_true (by omega))) rfl rfl ?_
                  | refine TN_val (rr_lss rfl rfl (decide_eq_false (by omega))) rfl rfl ?_
                  | refine TN_val (rr_geq rfl rfl (decide_eq_true (by omega))) rfl rfl ?_
                  | refine TN_val (rr_geq rfl rfl (decide_eq_false (by omega))) rfl rfl ?_
                  | refine TN_val (rr_sub64 rfl rfl (by omega) (by omega) rfl) rfl rfl ?_))
              | refine TW_done ?_)
            repeat (first
              | refine TL_valg rfl (rr_move rfl) rfl rfl ?_
              | refine TL_valg rfl (rr_assign rfl) rfl rfl ?_
              | refine TL_nil ?_
              | refine T_seq ?_
              | refine T_region ?_
              | refine T_condT rfl ?_
              | refine T_condF rfl ?_
              | refine T_skip ?_
              | refine T_exit ?_
              | refine T_ret ?_
              | refine T_block ?_
              | refine E_then ?_
              | refine E_thenX ?_
              | refine E_thenR ?_
              | refine E_blockN ?_
              | refine E_blockR ?_
              | refine E_blockX ?_
              | refine E_blockO rfl ?_
              | refine TL_valg rfl (rr_sub64 (r := (kids.length : Int) - 1 - ((j + 1 : Nat) : Int)) rfl rfl (by omega) (by omega) (by omega)) rfl rfl ?_
              | refine TL_valg rfl (rr_len Und.eq rfl) rfl rfl ?_
              | refine TL_valg rfl (rr_field FldC.fld rfl rfl) rfl rfl ?_
              | refine TL_valg rfl (rr_lss rfl rfl (decide_eq_true (by omega))) rfl rfl ?_
              | refine TL_valg rfl (rr_lss rfl rfl (decide_eq_false (by omega))) rfl rfl ?_
              | refine TL_valg rfl (rr_geq rfl rfl (decide_eq_true (by omega))) rfl rfl ?_
              | refine TL_valg rfl (rr_geq rfl rfl (decide_eq_false (by omega))) rfl rfl ?_
              | refine TL_valg rfl (rr_sub64 rfl rfl (by omega) (by omega) rfl) rfl rfl ?_)
            refine E_merge (elsO treeS (fun k => F k ∨ F2 k) (css ++ [[.int .i64 mp, .int .i64 mk, vm]]) (R.take j ++ [.mk mp mk mks])) 5 4 [0, 1, 2, 3] (by decide) rfl rfl rfl (fun k hk => hk.elim (fun h => by cases h) fun h => h.elim (fun h => .inr (.inr h)) fun h => .inl (.inr h)) (fun w hk he => ?_) ?_
            · obtain ⟨⟨v'', hv, h5⟩, h6⟩ := hk
              simp only [List.cons.injEq, and_true] at hv
              subst hv
              exact els_snoc he (tree_iff.2 ⟨vm, rfl, hok.1, hok.2, h5⟩) h6
            exact E_round (j + 1, v', css ++ [[.int .i64 mp, .int .i64 mk, vm]], fun k => F k ∨ F2 k) ⟨by omega, hv2⟩ (by show kids.length - (j + 1) < kids.length - j; omega) (by repeat' (first | exact True.intro | refine And.intro rfl ?_)) (by rw [htk, List.flatten_append]; rfl)
          · refine TL_one (cs := #[.int .i64 mp, .int .i64 mk, vm]) rfl rfl rfl rfl rfl fun g36 => ?_
            conv => arg 8; simp only [List.cons_append, List.nil_append, List.append_nil, List.filterMap_cons, List.filterMap_nil, List.getElem?_cons_succ, List.getElem?_cons_zero, List.set_cons_zero, List.set_cons_succ, rowS, ret, id_eq]
            refine TW_on (sub_pick [0] (by decide) rfl) ?_
            refine TW_one rfl (TL_val (rr_load1 TyC.ty rfl (at_blk (i := 2) rfl rfl)) rfl rfl rfl (TW_on (sub_pick [0] (by decide) rfl) ?_))
            refine TW_one rfl ?_
            refine TL_know (i := 5) (φ := vm.oneCell' = true ∧ vm.cells = #[vm]) rfl (fun w h => kidsO_one h) fun hvm => ?_
            refine TL_app1 (i := 3) (q := 6) rfl rfl rfl rfl rfl (by simp [hvm.1]; exact ⟨rfl, rfl⟩) (by omega) (by omega) rfl fun v' => ?_
            conv => arg 8; simp only [List.cons_append, List.nil_append, List.append_nil, List.filterMap_cons, List.filterMap_nil, List.getElem?_cons_succ, List.getElem?_cons_zero, List.set_cons_zero, List.set_cons_succ, rowS, ret, id_eq]
            refine TL_slv (i := 3) rfl fun hv1 hv2 => ?_
            refine TW_on (sub_pick [0] (by decide) rfl) ?_
            repeat (first
              | ((first | refine TW_plain rfl rfl ?_ | refine TW_gmet rfl rfl rfl rfl ?_); (first
                  | refine TN_val (rr_move rfl) rfl rfl ?_
                  | refine TN_val (rr_assign rfl) rfl rfl ?_
                  | refine TN_val (rr_len Und.eq rfl) rfl rfl ?_
                  | refine TN_val (rr_field FldC.fld rfl rfl) rfl rfl ?_
                  | refine TN_val (rr_lss rfl rfl (decide_eq_true (by omega))) rfl rfl ?_
                  | refine TN_val (rr_lss rfl rfl (decide_eq_false (by omega))) rfl rfl ?_
                  | refine TN_val (rr_geq rfl rfl (decide_eq_true (by omega))) rfl rfl ?_
                  | refine TN_val (rr_geq rfl rfl (decide_eq_false (by omega))) rfl rfl ?_
                  | refine TN_val (rr_sub64 rfl rfl (by omega) (by omega) rfl) rfl rfl ?_))
              | refine TW_done ?_)
            refine TW_one rfl (TL_store1 (i := 2) rfl rfl rfl hv1 hv2 rfl ?_)
            conv => arg 8; simp only [List.cons_append, List.nil_append, List.append_nil, List.filterMap_cons, List.filterMap_nil, List.getElem?_cons_succ, List.getElem?_cons_zero, List.set_cons_zero, List.set_cons_succ, rowS, ret, id_eq]
            refine TW_on (sub_pick [0] (by decide) rfl) ?_
            repeat (first
              | ((first | refine TW_plain rfl rfl ?_ | refine TW_gmet rfl rfl rfl rfl ?_); (first
                  | refine TN_val (rr_move rfl) rfl rfl ?_
                  | refine TN_val (rr_assign rfl) rfl rfl ?_
                  | refine TN_val (rr_len Und.eq rfl) rfl rfl ?_
                  | refine TN_val (rr_field FldC.fld rfl rfl) rfl rfl ?_
                  | refine TN_val (rr_lss rfl rfl (decide_eq_true (by omega))) rfl rfl ?_
                  | refine TN_val (rr_lss rfl rfl (decide_eq_false (by omega))) rfl rfl ?_
                  | refine TN_val (rr_geq rfl rfl (decide_eq_true (by omega))) rfl rfl ?_
                  | refine TN_val (rr_geq rfl rfl (decide_eq_false (by omega))) rfl rfl ?_
                  | refine TN_val (rr_sub64 rfl rfl (by omega) (by omega) rfl) rfl rfl ?_))
              | refine TW_done ?_)
            repeat (first
              | refine TL_valg rfl (rr_move rfl) rfl rfl ?_
              | refine TL_valg rfl (rr_assign rfl) rfl rfl ?_
              | refine TL_nil ?_
              | refine T_seq ?_
              | refine T_region ?_
              | refine T_condT rfl ?_
              | refine T_condF rfl ?_
              | refine T_skip ?_
              | refine T_exit ?_
              | refine T_ret ?_
              | refine T_block ?_
              | refine E_then ?_
              | refine E_thenX ?_
              | refine E_thenR ?_
              | refine E_blockN ?_
              | refine E_blockR ?_
              | refine E_blockX ?_
              | refine E_blockO rfl ?_
              | refine TL_valg rfl (rr_sub64 (r := (kids.length : Int) - 1 - ((j + 1 : Nat) : Int)) rfl rfl (by omega) (by omega) (by omega)) rfl rfl ?_
              | refine TL_valg rfl (rr_len Und.eq rfl) rfl rfl ?_
              | refine TL_valg rfl (rr_field FldC.fld rfl rfl) rfl rfl ?_
              | refine TL_valg rfl (rr_lss rfl rfl (decide_eq_true (by omega))) rfl rfl ?_
              | refine TL_valg rfl (rr_lss rfl rfl (decide_eq_false (by omega))) rfl rfl ?_
              | refine TL_valg rfl (rr_geq rfl rfl (decide_eq_true (by omega))) rfl rfl ?_
              | refine TL_valg rfl (rr_geq rfl rfl (decide_eq_false (by omega))) rfl rfl ?_
              | refine TL_valg rfl (rr_sub64 rfl rfl (by omega) (by omega) rfl) rfl rfl ?_)
            refine E_merge (elsO treeS (fun k => F k ∨ F2 k) (css ++ [[.int .i64 mp, .int .i64 mk, vm]]) (R.take j ++ [.mk mp mk mks])) 5 4 [0, 1, 2, 3] (by decide) rfl rfl rfl (fun k hk => hk.elim (fun h => by cases h) fun h => h.elim (fun h => .inr (.inr h)) fun h => .inl (.inr h)) (fun w hk he => ?_) ?_
            · obtain ⟨⟨v'', hv, h5⟩, h6⟩ := hk
              simp only [List.cons.injEq, and_true] at hv
              subst hv
              exact els_snoc he (tree_iff.2 ⟨vm, rfl, hok.1, hok.2, h5⟩) h6
            exact E_round (j + 1, v', css ++ [[.int .i64 mp, .int .i64 mk, vm]], fun k => F k ∨ F2 k) ⟨by omega, hv2⟩ (by show kids.length - (j + 1) < kids.length - j; omega) (by repeat' (first | exact True.intro | refine And.intro rfl ?_)) (by rw [htk, List.flatten_append]; rfl)
      · obtain rfl : j = kids.length := by omega
        have htk : R.take kids.length = R := List.take_of_length_le (by omega)
        rw [htk]
        repeat (first
          | refine TL_valg rfl (rr_move rfl) rfl rfl ?_
          | refine TL_valg rfl (rr_assign rfl) rfl rfl ?_
          | refine TL_nil ?_
          | refine T_seq ?_
          | refine T_region ?_
          | refine T_condT rfl ?_
          | refine T_condF rfl ?_
          | refine T_skip ?_
          | refine T_exit ?_
          | refine T_ret ?_
          | refine T_block ?_
          | refine E_then ?_
          | refine E_thenX ?_
          | refine E_thenR ?_
          | refine E_blockN ?_
          | refine E_blockR ?_
          | refine E_blockX ?_
          | refine E_blockO rfl ?_
          | refine TL_valg rfl (rr_loadB (i := 2) TyC.ty rfl rfl rfl) rfl rfl ?_
          | refine TL_valg rfl (rr_len Und.eq rfl) rfl rfl ?_
          | refine TL_valg rfl (rr_field FldC.fld rfl rfl) rfl rfl ?_
          | refine TL_valg rfl (rr_lss rfl rfl (decide_eq_true (by omega))) rfl rfl ?_
          | refine TL_valg rfl (rr_lss rfl rfl (decide_eq_false (by omega))) rfl rfl ?_
          | refine TL_valg rfl (rr_geq rfl rfl (decide_eq_true (by omega))) rfl rfl ?_
          | refine TL_valg rfl (rr_geq rfl rfl (decide_eq_false (by omega))) rfl rfl ?_
          | refine TL_valg rfl (rr_sub64 rfl rfl (by omega) (by omega) rfl) rfl rfl ?_)
        refine TL_storeB (i := 1) rfl rfl rfl rfl (by simp [treeV, Value.cells, i2]; exact ⟨rfl, rfl⟩) rfl ?_
        conv => arg 8; simp only [List.cons_append, List.nil_append, List.append_nil, List.filterMap_cons, List.filterMap_nil, List.getElem?_cons_succ, List.getElem?_cons_zero, List.set_cons_zero, List.set_cons_succ, rowS, ret, id_eq]
        refine TL_merge (kidsO (Or1 F v) v R) 3 4 [0, 1, 2] (by decide) rfl rfl rfl (fun k hk => hk.elim (fun h => by cases h) fun h => h.elim (fun h => .inr (.inr h)) fun h => .inl (.inl h)) (fun w hr he => ?_) ?_
        · have hr' : (rowO 46 treeS.c v R.length css.flatten).holds w := by rw [hmlen]; exact hr
          exact ⟨⟨v, rfl, slf_of hr' he (by decide)⟩, slO_lt hr' he⟩
        conv => arg 8; simp only [List.cons_append, List.nil_append, List.append_nil, List.filterMap_cons, List.filterMap_nil, List.getElem?_cons_succ, List.getElem?_cons_zero, List.set_cons_zero, List.set_cons_succ, rowS, ret, id_eq]
        repeat (first
          | refine TL_valg rfl (rr_move rfl) rfl rfl ?_
          | refine TL_valg rfl (rr_assign rfl) rfl rfl ?_
          | refine TL_nil ?_
          | refine T_seq ?_
          | refine T_region ?_
          | refine T_condT rfl ?_
          | refine T_condF rfl ?_
          | refine T_skip ?_
          | refine T_exit ?_
          | refine T_ret ?_
          | refine T_block ?_
          | refine E_then ?_
          | refine E_thenX ?_
          | refine E_thenR ?_
          | refine E_blockN ?_
          | refine E_blockR ?_
          | refine E_blockX ?_
          | refine E_blockO rfl ?_
          | refine TL_valg rfl (rr_len Und.eq rfl) rfl rfl ?_
          | refine TL_valg rfl (rr_field FldC.fld rfl rfl) rfl rfl ?_
          | refine TL_valg rfl (rr_lss rfl rfl (decide_eq_true (by omega))) rfl rfl ?_
          | refine TL_valg rfl (rr_lss rfl rfl (decide_eq_false (by omega))) rfl rfl ?_
          | refine TL_valg rfl (rr_geq rfl rfl (decide_eq_true (by omega))) rfl rfl ?_
          | refine TL_valg rfl (rr_geq rfl rfl (decide_eq_false (by omega))) rfl rfl ?_
          | refine TL_valg rfl (rr_sub64 rfl rfl (by omega) (by omega) rfl) rfl rfl ?_)
        exact E_retc1 (i := 1) rfl rfl rfl rfl fun w hm => hm.meets (S := treeSp (.mk p 0 R)) (v, Or1 F v) trivial [3] (by decide) rfl
end Go.Proofs.Ytnicebdkejkieaa.eng
