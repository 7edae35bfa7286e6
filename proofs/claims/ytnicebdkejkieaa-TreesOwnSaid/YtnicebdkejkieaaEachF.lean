/- trees.each with closures that hold more. -/
import Derived.Test.YtnicebdkejkieaaTreeB
namespace Go.Proofs.Ytnicebdkejkieaa.eng
open Go.RowKit kit mix gramL treeL
theorem pick_mem2 {L : List Own} {R : List Nat} {o : Own} (h : o ∈ R.filterMap fun i => L[i]?) : o ∈ L := by
  obtain ⟨i, _, hi⟩ := List.mem_filterMap.1 h
  exact List.mem_of_getElem? hi
set_option maxRecDepth 100000 in
set_option maxHeartbeats 16000000 in
/-- each node of a right tree: closures that turn what they have captured -/
theorem each5_calls (w0 : World) (t n : Int) (vp : Value) (prods : List gramL.Prod) (hG : SlF prodS (fun k => k < w0.heap.size) w0 vp prods) {α : Type} (O1 O2 : α → Value → Own) (X1 X2 X3 : Own) (step : α → Deed → α) (len : α → Nat) (fa fb fl : FuncId) (a1 a2 b1 b2 l1 l2 : Array Value) (ea : Enters Try.prog fa) (eb : Enters Try.prog fb) (el : Enters Try.prog fl)
    (hA : ∀ s z p w B, len s ≤ 100000 → Mem B [O1 s z, O2 s z, X1, X2, X3] w → Calls Try.prog fa (a1 ++ #[.int .i64 p] ++ a2) w (MeetsB ⟨fun (_ : Value) => True, fun _ => .tuple #[], fun z' => [O1 (step s (.ahead p)) z', O2 (step s (.ahead p)) z', X1, X2, X3]⟩ B))
    (hB : ∀ s z p w B, len s ≤ 100000 → Mem B [O1 s z, O2 s z, X1, X2, X3] w → Calls Try.prog fb (b1 ++ #[.int .i64 p] ++ b2) w (MeetsB ⟨fun (_ : Value) => True, fun _ => .tuple #[], fun z' => [O1 (step s (.behind p)) z', O2 (step s (.behind p)) z', X1, X2, X3]⟩ B))
    (hL : ∀ s z p q w B, len s ≤ 100000 → Mem B [O1 s z, O2 s z, X1, X2, X3] w → Calls Try.prog fl (l1 ++ #[.int .i64 p, .int .i64 q] ++ l2) w (MeetsB ⟨fun (_ : Value) => True, fun _ => .tuple #[], fun z' => [O1 (step s (.leaf p q)) z', O2 (step s (.leaf p q)) z', X1, X2, X3]⟩ B))
    (hlen : ∀ s x, len (step s x) ≤ len s + 1) : ∀ (N : Nat) (tr : Tree), size tr ≤ N → ∀ (vt : Value) (x : Sym) (u : Nat) (s : α) (z : Value) (w : World) (B : Base), TreeR (fun k => k < w0.heap.size) w0 vt tr → Right prods tr x u → 0 ≤ tr.prod → len s + (acts prods tr).length ≤ 100000 → Old w0 B → Mem B [O1 s z, O2 s z, X1, X2, X3] w →
    Calls Try.prog 64 #[graV t n vp, vt, .func (.func fa) a1 a2, .func (.func fb) b1 b2, .func (.func fl) l1 l2] w (MeetsB ⟨fun (_ : Value) => True, fun _ => .tuple #[], fun z' => [O1 ((acts prods tr).foldl step s) z', O2 ((acts prods tr).foldl step s) z', X1, X2, X3]⟩ B)
  | 0, tr, h, _, _, _, _, _, _, _, _, _, _, _, _, _ => by have := size_pos tr; omega
  | N + 1, .mk p k kids, hN, vt, x, u, s, z, w, B, hv, hR, hp0, hsl, ho, hm => by
    have IH := each5_calls w0 t n vp prods hG O1 O2 X1 X2 X3 step len fa fb fl a1 a2 b1 b2 l1 l2 ea eb el hA hB hL hlen N
    obtain ⟨vk, rfl, hp64, hk64, hks⟩ := hv
    dsimp only [Tree.prod, Tree.tok, Tree.kids] at hp64 hk64 hks hp0 ⊢
    obtain ⟨bk, ck, rfl, hck, hmk, hrk⟩ := hks
    unfold maxLen at hmk
    rw [size] at hN
    rw [Right] at hR
    rw [acts] at hsl ⊢
    obtain ⟨r1, r2, r3, r4, r5, r6⟩ : x.1 ≠ 1 ∧ 0 ≤ p ∧ p < (prods.length : Int) ∧ (prodAt prods p).1 = x.2 ∧ k = 0 ∧ Rights prods kids (prodAt prods p).2 u := by
      rcases hR with ⟨_, h, _⟩ | h
      · omega
      · exact h
    clear hR
    obtain ⟨pn, rfl⟩ : ∃ pn : Nat, p = pn := ⟨p.toNat, by omega⟩
    have c6 : pn < prods.length := by omega
    obtain ⟨bp, cp, rfl, hcp, hmp, hrp⟩ := hG
    unfold maxLen at hmp
    obtain ⟨b, off, rfl, _, hr⟩ := hrp (by omega)
    obtain ⟨bb, cb, q1, q2, q3⟩ := prod_at hr c6
    rw [prodAt_eq c6] at r4 r6 hsl ⊢
    have hat : ∀ (L : List Own) (j : Nat) (v : Value), ([.int .i64 prods[pn].1, .slice bb prods[pn].2.length cb] : List Value)[j]? = some v → At B L ⟨b, off + pn * 2 + j, none⟩ v := fun L j v hj => at_old0 ho (q1 j v hj)
    have hfl := q3.flat (by decide)
    clear hr hrp q1 q3 q2
    generalize prods[pn] = pd at *
    obtain ⟨hd, body⟩ := pd
    dsimp only at *
    have hat1 := fun L => hat L 1 _ rfl
    clear hat
    obtain ⟨b2', cb2, he, hb4, hb5, hb6⟩ := hfl
    simp only [Value.slice.injEq, true_and] at he
    obtain ⟨rfl, rfl⟩ := he
    unfold maxLen at hb5
    have hkl := rights_len r6
    have hall := rights_at r6
    refine enterB hm (args := [graV t n (.slice (some ⟨b, off, none⟩) prods.length cp), treeV (pn : Int) k (.slice bk kids.length ck), .func (.func fa) a1 a2, .func (.func fb) b1 b2, .func (.func fl) l1 l2]) (n := 53) Try.func64 rfl rfl rfl ?_
    clear hm
    refine T_seq (T_region (TL_box rfl rfl rfl fun g5 => TL_box rfl rfl rfl fun g6 => ?_))
    conv => arg 8; simp only [zA, zB, zC, zD, zE, zF, zG, zH, zI, rowS, ret, id_eq]
    repeat (first
      | refine qv rfl (qp rfl) rfl rfl ?_ | refine TL_nil ?_ | refine T_seq ?_ | refine T_region ?_ | refine qcT rfl ?_ | refine qcF rfl ?_ | refine T_skip ?_
      | refine T_exit ?_ | refine T_block ?_ | refine E_then ?_ | refine E_thenX ?_ | refine E_thenR ?_ | refine E_blockN ?_ | refine E_blockR ?_
      | refine E_blockX ?_ | refine E_blockO rfl ?_ | refine qv rfl (rr_load1 TyC.ty rfl (at_blk (i := 6) rfl rfl)) rfl rfl ?_
      | refine qv rfl (qlen Und.eq rfl) rfl rfl ?_ | refine qv rfl (qfld FldC.fld rfl rfl) rfl rfl ?_
      | refine qv rfl (rr_lss rfl rfl (qT (by omega))) rfl rfl ?_ | refine qv rfl (rr_lss rfl rfl (qF (by omega))) rfl rfl ?_
      | refine qv rfl (rr_add64 rfl rfl (by omega) (by omega) rfl) rfl rfl ?_)
    refine TL_callB [0, 1, 2, 3, 4] [5, 6] (by decide) rfl rfl (he1c ea rfl rfl) (fun w hm hb => hA s z _ w _ (by omega) hb) rfl rfl rfl ?_
    intro z1 _
    conv => arg 8; simp only [zA, zB, zC, zD, zE, zF, zG, zH, zI, rowS, ret, id_eq]
    repeat (first
      | refine qv rfl (qp rfl) rfl rfl ?_ | refine TL_nil ?_ | refine T_seq ?_ | refine T_region ?_ | refine qcT rfl ?_ | refine qcF rfl ?_ | refine T_skip ?_
      | refine T_exit ?_ | refine T_block ?_ | refine E_then ?_ | refine E_thenX ?_ | refine E_thenR ?_ | refine E_blockN ?_ | refine E_blockR ?_
      | refine E_blockX ?_ | refine E_blockO rfl ?_ | refine qv rfl (rr_load1 TyC.ty rfl (at_blk (i := 1) rfl rfl)) rfl rfl ?_
      | refine qv rfl (qlen Und.eq rfl) rfl rfl ?_ | refine qv rfl (qfld FldC.fld rfl rfl) rfl rfl ?_
      | refine qv rfl (rr_lss rfl rfl (qT (by omega))) rfl rfl ?_ | refine qv rfl (rr_lss rfl rfl (qF (by omega))) rfl rfl ?_
      | refine qv rfl (rr_add64 rfl rfl (by omega) (by omega) rfl) rfl rfl ?_)
    rw [List.foldl_cons] at *
    have hl1 := hlen s (.ahead (pn : Int))
    rw [List.length_cons] at hsl
    generalize step s (.ahead (pn : Int)) = s1 at *
    generalize hfin : (actss prods kids body ++ [Deed.behind (pn : Int)]).foldl step s1 = fin
    refine T_loop (ι := Nat × α × Value) (fun (i, a, _) => i ≤ kids.length ∧ len a + (actss prods (kids.drop i) (body.drop i) ++ [Deed.behind (pn : Int)]).length ≤ 100000 ∧ (actss prods (kids.drop i) (body.drop i) ++ [Deed.behind (pn : Int)]).foldl step a = fin) (fun (i, _, _) => [(2, .func (.func fa) a1 a2), (3, .func (.func fb) b1 b2), (4, .func (.func fl) l1 l2), (5, .pointer (some ⟨g5, 0, none⟩)), (6, .pointer (some ⟨g6, 0, none⟩)), (17, .slice bk kids.length ck), (18, .int .i64 kids.length), (19, .int .i64 (i : Int))])
      (fun (_, a, z) => [blkO g5 (graV t n (.slice (some ⟨b, off, none⟩) prods.length cp)).cells 24, blkO g6 (treeV (pn : Int) k (.slice bk kids.length ck)).cells 46, O1 a z, O2 a z, X1, X2, X3]) (fun (i, _, _) => kids.length - i) (0, s1, z1) ⟨Nat.zero_le _, by rw [List.drop_zero, List.drop_zero]; omega, hfin⟩ (by repeat' (first | exact True.intro | refine And.intro rfl ?_)) rfl ?_
    clear hfin hsl hl1
    rintro ⟨i, a, z'⟩ ⟨i1, i2, i3⟩
    dsimp only at i1 i2 i3 ⊢
    by_cases c7 : i < kids.length
    · obtain ⟨bk2, offk, rfl, _, hrkk⟩ := hrk (by omega)
      obtain ⟨kb, kc, y1, y2⟩ := kid_at hrkk c7
      have c8 : i < body.length := by omega
      obtain ⟨b3, off3, rfl, hr3⟩ := hb6 (by omega)
      obtain ⟨uu, hru⟩ := hall i c7 c8
      rw [List.drop_eq_getElem_cons c7, List.drop_eq_getElem_cons c8] at i2 i3
      have hatk : ∀ (L : List Own) (j : Nat) (v : Value), ([.int .i64 kids[i].prod, .int .i64 kids[i].tok, .slice kb kids[i].kids.length kc] : List Value)[j]? = some v → At B L ⟨bk2, offk + i * 3 + j, none⟩ v := fun L j v hj => at_old0 ho (y1 j v hj)
      have hatx := fun L => at_elL (W := B) (L := L) SymS_len (fun q x hq => at_old0 ho (hr3 q x hq)) c8
      have hszk : size kids[i] ≤ N := by have := size_mem kids i c7; omega
      have IHk := IH kids[i] hszk
      clear hrk hrkk hb6 hr3 y1 IH hall
      generalize kids[i] = kt at *
      generalize body[i] = y at *
      have IHk := IHk (treeV kt.prod kt.tok (.slice kb kt.kids.length kc)) y uu a z'
      obtain ⟨kp, kk, kk2⟩ := kt
      dsimp only [Tree.prod, Tree.tok, Tree.kids] at *
      obtain ⟨yq, ym⟩ := y
      rw [actss] at i2 i3
      repeat (first
        | refine qv rfl (qp rfl) rfl rfl ?_ | refine TL_nil ?_ | refine T_seq ?_ | refine T_region ?_ | refine qcT rfl ?_ | refine qcF rfl ?_ | refine T_skip ?_
        | refine T_exit ?_ | refine T_block ?_ | refine E_then ?_ | refine E_thenX ?_ | refine E_thenR ?_ | refine E_blockN ?_ | refine E_blockR ?_
        | refine E_blockX ?_ | refine E_blockO rfl ?_ | refine qv rfl (rr_idxc Und.eq TyC.ty rfl rfl c7) rfl rfl ?_
        | refine qv rfl (rr_loadN TyC.ty rfl rfl (hatk _)) rfl rfl ?_ | refine qv rfl (qlen Und.eq rfl) rfl rfl ?_
        | refine qv rfl (qfld FldC.fld rfl rfl) rfl rfl ?_ | refine qv rfl (rr_lss rfl rfl (qT (by omega))) rfl rfl ?_
        | refine qv rfl (rr_lss rfl rfl (qF (by omega))) rfl rfl ?_ | refine qv rfl (rr_add64 rfl rfl (by omega) (by omega) rfl) rfl rfl ?_)
      refine TL_new rfl fun g11 => ?_
      repeat (first
        | refine qv rfl (qp rfl) rfl rfl ?_ | refine TL_nil ?_ | refine T_seq ?_ | refine T_region ?_ | refine qcT rfl ?_ | refine qcF rfl ?_ | refine T_skip ?_
        | refine T_exit ?_ | refine T_block ?_ | refine E_then ?_ | refine E_thenX ?_ | refine E_thenR ?_ | refine E_blockN ?_ | refine E_blockR ?_
        | refine E_blockX ?_ | refine E_blockO rfl ?_ | refine qv rfl (qlen Und.eq rfl) rfl rfl ?_ | refine qv rfl (qfld FldC.fld rfl rfl) rfl rfl ?_
        | refine qv rfl (rr_lss rfl rfl (qT (by omega))) rfl rfl ?_ | refine qv rfl (rr_lss rfl rfl (qF (by omega))) rfl rfl ?_
        | refine qv rfl (rr_add64 rfl rfl (by omega) (by omega) rfl) rfl rfl ?_)
      refine TL_storeB (i := 7) rfl rfl rfl rfl rfl rfl ?_
      conv => arg 8; simp only [zA, zB, zC, zD, zE, zF, zG, zH, zI, rowS, ret, id_eq]
      by_cases c9 : kp < 0
      · rw [if_pos c9] at i2 i3
        have hl2 := hlen a (.leaf ym kk)
        simp only [List.cons_append, List.nil_append, List.foldl_cons, List.length_cons] at i2 i3
        repeat (first
          | refine qv rfl (qp rfl) rfl rfl ?_ | refine TL_nil ?_ | refine T_seq ?_ | refine T_region ?_ | refine qcT rfl ?_ | refine qcF rfl ?_ | refine T_skip ?_
          | refine T_exit ?_ | refine T_block ?_ | refine E_then ?_ | refine E_thenX ?_ | refine E_thenR ?_ | refine E_blockN ?_ | refine E_blockR ?_
          | refine E_blockX ?_ | refine E_blockO rfl ?_ | refine qv rfl (rr_load1 TyC.ty rfl (at_blk (i := 7) rfl rfl)) rfl rfl ?_
          | refine qv rfl (qlen Und.eq rfl) rfl rfl ?_ | refine qv rfl (qfld FldC.fld rfl rfl) rfl rfl ?_
          | refine qv rfl (rr_lss rfl rfl (qT (by omega))) rfl rfl ?_ | refine qv rfl (rr_lss rfl rfl (qF (by omega))) rfl rfl ?_
          | refine qv rfl (rr_add64 rfl rfl (by omega) (by omega) rfl) rfl rfl ?_)
        refine T_ord ([blkO g5 (graV t n (.slice (some ⟨b, off, none⟩) prods.length cp)).cells 24, blkO g6 (treeV (pn : Int) k (.slice (some ⟨bk2, offk, none⟩) kids.length ck)).cells 46, blkO g11 #[.int .i64 kp, .int .i64 kk, .slice kb kk2.length kc] 46]) (.calm 0 (.calm 1 (.calm 2 (.calm 3 (.calm 4 (.calm 5 (.calm 6 (.calm 7 (.calm 8 (.calm 9 (.calm 10 (.calm 11 (.calm 12 (.calm 13 (.one 14 (.done)))))))))))))))) (sub_pick [0, 1, 7] (by decide) rfl) (by kernel_rfl) (by kernel_rfl) (by intro c a d v w h; cases d <;> exact h) ?_
        repeat (first
          | ((first | refine TW_plain rfl rfl ?_ | refine TW_gmet rfl rfl rfl rfl ?_); first | refine TN_val (qp rfl) rfl rfl ?_ | refine TN_val (rr_load1 TyC.ty rfl (at_blk (i := 0) rfl rfl)) rfl rfl ?_ | refine TN_val (rr_load1 TyC.ty rfl (at_blk (i := 1) rfl rfl)) rfl rfl ?_ | refine TN_val (rr_load1 TyC.ty rfl (at_blk (i := 2) rfl rfl)) rfl rfl ?_ | refine TN_val (rr_idxc Und.eq TyC.ty rfl rfl c6) rfl rfl ?_ | refine TN_val (rr_load1 TyC.ty rfl (hat1 _)) rfl rfl ?_ | refine TN_val (rr_idxc Und.eq TyC.ty rfl rfl c8) rfl rfl ?_ | refine TN_val (rr_load1 TyC.ty rfl (hatx _ 1 _ rfl)) rfl rfl ?_ | refine TN_val (qlen Und.eq rfl) rfl rfl ?_ | refine TN_val (qfld FldC.fld rfl rfl) rfl rfl ?_ | refine TN_val (rr_lss rfl rfl (qT (by omega))) rfl rfl ?_ | refine TN_val (rr_lss rfl rfl (qF (by omega))) rfl rfl ?_ | refine TN_val (rr_add64 rfl rfl (by omega) (by omega) rfl) rfl rfl ?_)
          | refine TW_done ?_)
        refine TW_one rfl ?_
        refine TL_callB [2, 3, 4, 5, 6] [0, 1, 7] (by decide) rfl rfl (he2c el rfl rfl rfl) (fun w hm hb => hL a z' _ _ w _ (by omega) hb) rfl rfl rfl ?_
        intro z2 _
        conv => arg 8; simp only [zA, zB, zC, zD, zE, zF, zG, zH, zI, rowS, ret, id_eq]
        refine TW_on (sub_pick [0, 1, 2] (by decide) rfl) ?_
        repeat (first
          | ((first | refine TW_plain rfl rfl ?_ | refine TW_gmet rfl rfl rfl rfl ?_); first | refine TN_val (qp rfl) rfl rfl ?_ | refine TN_val (qlen Und.eq rfl) rfl rfl ?_ | refine TN_val (qfld FldC.fld rfl rfl) rfl rfl ?_ | refine TN_val (rr_lss rfl rfl (qT (by omega))) rfl rfl ?_ | refine TN_val (rr_lss rfl rfl (qF (by omega))) rfl rfl ?_ | refine TN_val (rr_add64 rfl rfl (by omega) (by omega) rfl) rfl rfl ?_)
          | refine TW_done ?_)
        repeat (first
          | refine qv rfl (qp rfl) rfl rfl ?_ | refine TL_nil ?_ | refine T_seq ?_ | refine T_region ?_ | refine qcT rfl ?_ | refine qcF rfl ?_ | refine T_skip ?_
          | refine T_exit ?_ | refine T_block ?_ | refine E_then ?_ | refine E_thenX ?_ | refine E_thenR ?_ | refine E_blockN ?_ | refine E_blockR ?_
          | refine E_blockX ?_ | refine E_blockO rfl ?_ | refine qv rfl (qlen Und.eq rfl) rfl rfl ?_ | refine qv rfl (qfld FldC.fld rfl rfl) rfl rfl ?_
          | refine qv rfl (rr_lss rfl rfl (qT (by omega))) rfl rfl ?_ | refine qv rfl (rr_lss rfl rfl (qF (by omega))) rfl rfl ?_
          | refine qv rfl (rr_add64 rfl rfl (by omega) (by omega) rfl) rfl rfl ?_)
        refine E_pick [0, 1, 3, 4, 5, 6, 7] (by decide) rfl ?_
        exact E_round (i + 1, step a (.leaf ym kk), z2) ⟨by omega, by dsimp only; omega, i3⟩ (by show kids.length - (i + 1) < kids.length - i; omega) (by repeat' (first | exact True.intro | refine And.intro rfl ?_)) rfl
      · rw [if_neg c9] at i2 i3
        rw [List.append_assoc, List.foldl_append] at i3
        rw [List.append_assoc, List.length_append] at i2
        have hfl : len ((acts prods (.mk kp kk kk2)).foldl step a) ≤ len a + (acts prods (.mk kp kk kk2)).length := by
          have : ∀ (l : List Deed) (a : α), len (l.foldl step a) ≤ len a + l.length := by
            intro l
            induction l with
            | nil => intro a; simp
            | cons y r ih => intro a; rw [List.foldl_cons, List.length_cons]; have := ih (step a y); have := hlen a y; omega
          exact this _ a
        have IHk := fun w' B' ho' hm' => IHk w' B' y2 hru (by omega) (by omega) ho' hm'
        generalize (acts prods (.mk kp kk kk2)).foldl step a = a' at *
        repeat (first
          | refine qv rfl (qp rfl) rfl rfl ?_ | refine TL_nil ?_ | refine T_seq ?_ | refine T_region ?_ | refine qcT rfl ?_ | refine qcF rfl ?_ | refine T_skip ?_
          | refine T_exit ?_ | refine T_block ?_ | refine E_then ?_ | refine E_thenX ?_ | refine E_thenR ?_ | refine E_blockN ?_ | refine E_blockR ?_
          | refine E_blockX ?_ | refine E_blockO rfl ?_ | refine qv rfl (rr_load1 TyC.ty rfl (at_blk (i := 7) rfl rfl)) rfl rfl ?_
          | refine qv rfl (rr_loadB (i := 0) TyC.ty rfl rfl rfl) rfl rfl ?_ | refine qv rfl (rr_loadB (i := 7) TyC.ty rfl rfl rfl) rfl rfl ?_
          | refine qv rfl (qlen Und.eq rfl) rfl rfl ?_ | refine qv rfl (qfld FldC.fld rfl rfl) rfl rfl ?_
          | refine qv rfl (rr_lss rfl rfl (qT (by omega))) rfl rfl ?_ | refine qv rfl (rr_lss rfl rfl (qF (by omega))) rfl rfl ?_
          | refine qv rfl (rr_add64 rfl rfl (by omega) (by omega) rfl) rfl rfl ?_)
        refine TL_callB [2, 3, 4, 5, 6] [0, 1, 7] (by decide) rfl rfl (he5 EntersC.en rfl rfl rfl rfl rfl rfl) (fun w hm hb => IHk w _ (ho.on hm fun o h => pick_mem2 h) hb) rfl rfl rfl ?_
        intro z2 _
        conv => arg 8; simp only [zA, zB, zC, zD, zE, zF, zG, zH, zI, rowS, ret, id_eq]
        repeat (first
          | refine qv rfl (qp rfl) rfl rfl ?_ | refine TL_nil ?_ | refine T_seq ?_ | refine T_region ?_ | refine qcT rfl ?_ | refine qcF rfl ?_ | refine T_skip ?_
          | refine T_exit ?_ | refine T_block ?_ | refine E_then ?_ | refine E_thenX ?_ | refine E_thenR ?_ | refine E_blockN ?_ | refine E_blockR ?_
          | refine E_blockX ?_ | refine E_blockO rfl ?_ | refine qv rfl (qlen Und.eq rfl) rfl rfl ?_ | refine qv rfl (qfld FldC.fld rfl rfl) rfl rfl ?_
          | refine qv rfl (rr_lss rfl rfl (qT (by omega))) rfl rfl ?_ | refine qv rfl (rr_lss rfl rfl (qF (by omega))) rfl rfl ?_
          | refine qv rfl (rr_add64 rfl rfl (by omega) (by omega) rfl) rfl rfl ?_)
        refine E_pick [0, 1, 3, 4, 5, 6, 7] (by decide) rfl ?_
        exact E_round (i + 1, a', z2) ⟨by omega, by dsimp only; omega, i3⟩ (by show kids.length - (i + 1) < kids.length - i; omega) (by repeat' (first | exact True.intro | refine And.intro rfl ?_)) rfl
    · have e1 : actss prods (kids.drop i) (body.drop i) = [] := by rw [List.drop_of_length_le (by omega), actss]
      rw [e1] at i2 i3
      simp only [List.nil_append, List.foldl_cons, List.foldl_nil, List.length_cons, List.length_nil] at i2 i3
      subst i3
      repeat (first
        | refine qv rfl (qp rfl) rfl rfl ?_ | refine TL_nil ?_ | refine T_seq ?_ | refine T_region ?_ | refine qcT rfl ?_ | refine qcF rfl ?_ | refine T_skip ?_
        | refine T_exit ?_ | refine T_block ?_ | refine E_then ?_ | refine E_thenX ?_ | refine E_thenR ?_ | refine E_blockN ?_ | refine E_blockR ?_
        | refine E_blockX ?_ | refine E_blockO rfl ?_ | refine qv rfl (rr_load1 TyC.ty rfl (at_blk (i := 1) rfl rfl)) rfl rfl ?_
        | refine qv rfl (qlen Und.eq rfl) rfl rfl ?_ | refine qv rfl (qfld FldC.fld rfl rfl) rfl rfl ?_
        | refine qv rfl (rr_lss rfl rfl (qT (by omega))) rfl rfl ?_ | refine qv rfl (rr_lss rfl rfl (qF (by omega))) rfl rfl ?_
        | refine qv rfl (rr_add64 rfl rfl (by omega) (by omega) rfl) rfl rfl ?_)
      refine TL_callB [2, 3, 4, 5, 6] [0, 1] (by decide) rfl rfl (he1c eb rfl rfl) (fun w hm hb => hB a z' _ w _ (by omega) hb) rfl rfl rfl ?_
      intro z2 _
      conv => arg 8; simp only [zA, zB, zC, zD, zE, zF, zG, zH, zI, rowS, ret, id_eq]
      repeat (first
        | refine qv rfl (qp rfl) rfl rfl ?_ | refine TL_nil ?_ | refine T_seq ?_ | refine T_region ?_ | refine qcT rfl ?_ | refine qcF rfl ?_ | refine T_skip ?_
        | refine T_exit ?_ | refine T_block ?_ | refine E_then ?_ | refine E_thenX ?_ | refine E_thenR ?_ | refine E_blockN ?_ | refine E_blockR ?_
        | refine E_blockX ?_ | refine E_blockO rfl ?_ | refine qv rfl (qlen Und.eq rfl) rfl rfl ?_ | refine qv rfl (qfld FldC.fld rfl rfl) rfl rfl ?_
        | refine qv rfl (rr_lss rfl rfl (qT (by omega))) rfl rfl ?_ | refine qv rfl (rr_lss rfl rfl (qF (by omega))) rfl rfl ?_
        | refine qv rfl (rr_add64 rfl rfl (by omega) (by omega) rfl) rfl rfl ?_)
      exact E_end0 rfl fun w hm => hm.meetsB (S := ⟨fun (_ : Value) => True, fun _ => .tuple #[], fun z' => [O1 (step a (.behind (pn : Int))) z', O2 (step a (.behind (pn : Int))) z', X1, X2, X3]⟩) z2 trivial [2, 3, 4, 5, 6] (by decide) rfl
end Go.Proofs.Ytnicebdkejkieaa.eng
