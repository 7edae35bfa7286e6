/- What LlTree's look answers of a tree that follows the table. -/
import Derived.Test.YtnicebdkejkieaaLlC
import Derived.Test.YtnicebdkejkieaaLook
namespace Go.Proofs.Ytnicebdkejkieaa.eng
open Go.RowKit kit mix gramL treeL factsL countL llL
section
variable (gg ga gw gr gl g10 : Nat) (T n : Nat) (bw : Option Addr) (cw : Nat) (word : List Int) (prods : List gramL.Prod) (may : Nat → Nat) (vs : Nat → Value)
def llS (vp : Value) (a : Nat) : List Own := [blkO gg (graV (T : Int) (n : Int) vp).cells 24, blkO ga #[.int .i64 (a : Int)] 3, blkO gw #[.slice bw word.length cw] 30, blkO gr #[.slice (some ⟨g10, 0, none⟩) n n] 89, blkO gl #[.func (.func 54) #[] #[.pointer (some ⟨gg, 0, none⟩), .pointer (some ⟨ga, 0, none⟩), .pointer (some ⟨gw, 0, none⟩), .pointer (some ⟨gr, 0, none⟩), .pointer (some ⟨gl, 0, none⟩)]] 93, rowO 3 1 (.slice bw word.length cw) word.length (word.map (.int .i64)), rowA 30 vals g10 n vs, famP (fun j => j < n) (rowsF prods may T vs n 0)]
end
instance : TyC Try.prog 93 false 1 := ⟨Ty.of (by kernel_rfl)⟩
instance : ZeroC Try.prog 93 #[.nilFunc] := ⟨by kernel_rfl⟩
theorem vs_form {l : List gramL.Prod} {may : Nat → Nat} {T N q : Nat} {vs : Nat → Value} {w : World} (h : (famP (fun j => j < N) (rowsF l may T vs N 0)).holds w) (hq : q < N) : ∃ g cap, vs q = .slice (some ⟨g, 0, none⟩) (T + 1) cap ∧ T + 1 ≤ cap := by
  have := h.1 q hq
  unfold rowsF cntL at this
  rw [if_pos hq] at this
  obtain ⟨G, cap, h1, h2, _, h4⟩ := row_form this
  cases G with
  | none => have := h4 rfl; omega
  | some g => exact ⟨g, cap, h1, h2⟩
theorem vs_cell {l : List gramL.Prod} {may : Nat → Nat} {T N q c g cap : Nat} {vs : Nat → Value} {w : World} (h : (famP (fun j => j < N) (rowsF l may T vs N 0)).holds w) (hq : q < N) (hv : vs q = .slice (some ⟨g, 0, none⟩) (T + 1) cap) (hc : c < T + 1) : w.cell? ⟨g, 0 + c, none⟩ = some (.int .i64 (llL.rowAt l may T q c)) := by
  have := h.1 q hq
  unfold rowsF cntL at this
  rw [if_pos hq, hv] at this
  exact row_cell this (by rw [Nat.zero_add, List.getElem?_map, tabA_get _ hc]; rfl)
set_option maxRecDepth 100000 in
set_option maxHeartbeats 16000000 in
theorem llook_calls (w0 : World) (gg ga gw gr gl g10 : Nat) (T n : Nat) (vp : Value) (bw : Option Addr) (cw : Nat) (word : List Int) (prods : List gramL.Prod) (may : Nat → Nat) (vs : Nat → Value) (hG : SlF prodS (fun k => k < w0.heap.size) w0 vp prods) (hheads : ∀ p ∈ prods, 0 ≤ p.1 ∧ p.1 < (n : Int)) (hT : T ≤ 30) (hwd : ∀ x ∈ word, 0 ≤ x ∧ x < (T : Int)) (hbw : 0 < word.length → ∃ g, bw = some ⟨g, 0, none⟩) (hwl : word.length ≤ 1000000) :
    ∀ (N : Nat) (tr : Tree), size tr ≤ N → ∀ (vt : Value) (x : Sym) (u a : Nat) (w : World) (B : Base), TreeR (fun k => k < w0.heap.size) w0 vt tr → Right prods tr x u → 0 ≤ tr.prod → DetT prods (fun h a => llL.rowAt prods may T h.toNat (colAt T word a)) tr a → a + leaves tr ≤ word.length → Old w0 B → Mem B (llS gg ga gw gr gl g10 T n bw cw word prods may vs vp a) w →
    Calls Try.prog 54 #[vt, .pointer (some ⟨gg, 0, none⟩), .pointer (some ⟨ga, 0, none⟩), .pointer (some ⟨gw, 0, none⟩), .pointer (some ⟨gr, 0, none⟩), .pointer (some ⟨gl, 0, none⟩)] w (MeetsB ⟨fun (_ : Unit) => True, fun _ => .bool true, fun _ => llS gg ga gw gr gl g10 T n bw cw word prods may vs vp (a + leaves tr)⟩ B)
  | 0, tr, h, _, _, _, _, _, _, _, _, _, _, _, _, _ => by have := size_pos tr; omega
  | N + 1, .mk p k kids, hN, vt, xs, u, a, w, B, hv, hRt, hp0, hdt, hal, ho, hm => by
    have IH := llook_calls w0 gg ga gw gr gl g10 T n vp bw cw word prods may vs hG hheads hT hwd hbw hwl N
    obtain ⟨vk, rfl, hp64, hk64, hks⟩ := hv
    dsimp only [Tree.prod, Tree.tok, Tree.kids] at hp64 hk64 hks hp0 ⊢
    obtain ⟨bk, ck, rfl, hck, hmk, hrk⟩ := hks
    unfold maxLen at hmk
    rw [size] at hN
    obtain ⟨r1, r3, r4, r5, r6⟩ := right_x hRt hp0
    clear hRt
    rw [DetT] at hdt
    rw [leaves, if_neg (by omega)] at hal ⊢
    obtain ⟨pn, rfl⟩ : ∃ pn : Nat, p = pn := ⟨p.toNat, by omega⟩
    have c6 : pn < prods.length := by omega
    obtain ⟨bp, cp, rfl, hcp, hmp, hrp⟩ := hG
    unfold maxLen at hmp
    obtain ⟨b, off, rfl, _, hr⟩ := hrp (by omega)
    obtain ⟨bb, cb, q1, q2, q3⟩ := prod_at hr c6
    have hhd := hheads prods[pn] (List.getElem_mem c6)
    rw [prodAt_eq c6] at r4 r6 hdt
    have hat : ∀ (L : List Own), At B L ⟨b, off + pn * 2 + 0, none⟩ (.int .i64 prods[pn].1) := fun L => at_old0 ho (q1 0 _ rfl)
    clear hr hrp q1 q3 q2
    generalize prods[pn] = pd at *
    obtain ⟨hd, body⟩ := pd
    dsimp only at *
    obtain ⟨hn, rfl⟩ : ∃ hn : Nat, hd = hn := ⟨hd.toNat, by omega⟩
    rw [Int.toNat_natCast] at hdt
    have hhn : hn < n := by omega
    have hkl := rights_len r6
    have hall := rights_at r6
    obtain ⟨l1, l2⟩ := hdt
    have hcol : colAt T word a ≤ T := by
      unfold colAt
      split
      · rename_i c
        have := hwd _ (List.getElem_mem c)
        have e : word.getD a 0 = word[a] := by rw [List.getD_eq_getElem?_getD, List.getElem?_eq_getElem c]; rfl
        rw [e]; omega
      · omega
    unfold llS at hm ⊢
    refine enterB hm (args := [treeV (pn : Int) k (.slice bk kids.length ck), .pointer (some ⟨gg, 0, none⟩), .pointer (some ⟨ga, 0, none⟩), .pointer (some ⟨gw, 0, none⟩), .pointer (some ⟨gr, 0, none⟩), .pointer (some ⟨gl, 0, none⟩)]) (n := 54) Try.func54 rfl rfl rfl ?_
    clear hm
    refine T_know (i := 7) rfl (fun w h => vs_form h hhn) fun hvf => ?_
    obtain ⟨gv, cv, hvs, hcv⟩ := hvf
    have hrc : ∀ L : List Own, L[7]? = some (famP (fun j => j < n) (rowsF prods may T vs n 0)) → At B L ⟨gv, 0 + colAt T word a, none⟩ (.int .i64 (pn : Int)) := fun L hL => by
      rw [← l1]
      exact at_hold hL fun w hh => vs_cell hh hhn hvs (by omega)
    have hvh : ∀ L : List Own, L[6]? = some (rowA 30 vals g10 n vs) → At B L ⟨g10, 0 + hn, none⟩ (.slice (some ⟨gv, 0, none⟩) (T + 1) cv) := fun L hL => by
      rw [← hvs]; exact at_rowA hL hhn
    refine T_seq (T_region (TL_box rfl rfl rfl fun g6 => ?_))
    conv => arg 8; simp only [zA, zB, zC, zD, zE, zF, zG, zH, zI, rowS, ret, id_eq]
    by_cases c0 : a < word.length
    · obtain ⟨gq, rfl⟩ := hbw (by omega)
      have e : word.getD a 0 = word[a] := by rw [List.getD_eq_getElem?_getD, List.getElem?_eq_getElem c0]; rfl
      have hwa := hwd _ (List.getElem_mem c0)
      have hcw : (word.map (Value.int .i64))[0 + a]? = some (.int .i64 ((colAt T word a : Nat) : Int)) := by
        unfold colAt
        rw [if_pos c0, e, Nat.zero_add, List.getElem?_map, List.getElem?_eq_getElem c0, Option.map_some, Int.toNat_of_nonneg hwa.1]
      generalize colAt T word a = col at *
      repeat (first
        | refine qv rfl (qp rfl) rfl rfl ?_ | refine TL_nil ?_ | refine T_seq ?_ | refine T_region ?_ | refine qcT rfl ?_ | refine qcF rfl ?_ | refine T_skip ?_
        | refine T_exit ?_ | refine T_ret ?_ | refine T_block ?_ | refine E_then ?_ | refine E_thenX ?_ | refine E_thenR ?_ | refine E_blockN ?_
        | refine E_blockR ?_ | refine E_blockX ?_ | refine E_blockO rfl ?_ | refine qv rfl (rr_load1 TyC.ty rfl (at_blk (i := 0) rfl rfl)) rfl rfl ?_
        | refine qv rfl (rr_load1 TyC.ty rfl (at_blk (i := 1) rfl rfl)) rfl rfl ?_ | refine qv rfl (rr_load1 TyC.ty rfl (at_blk (i := 2) rfl rfl)) rfl rfl ?_
        | refine qv rfl (rr_idx1 Und.eq TyC.ty rfl rfl c0) rfl rfl ?_ | refine qv rfl (rr_load1 TyC.ty rfl (at_row (i := 5) rfl hcw)) rfl rfl ?_
        | refine qv rfl (qlen Und.eq rfl) rfl rfl ?_ | refine qv rfl (qfld FldC.fld rfl rfl) rfl rfl ?_ | refine qv rfl (rr_not rfl rfl) rfl rfl ?_
        | refine qv rfl (rr_lss rfl rfl (qT (by omega))) rfl rfl ?_ | refine qv rfl (rr_lss rfl rfl (qF (by omega))) rfl rfl ?_
        | refine qv rfl (rr_neq rfl rfl (qT (by omega))) rfl rfl ?_ | refine qv rfl (rr_neq rfl rfl (qF (by omega))) rfl rfl ?_
        | refine qv rfl (rr_add64 rfl rfl (by omega) (by omega) rfl) rfl rfl ?_)
      refine T_ord ([blkO gg (graV (T : Int) (n : Int) (.slice (some ⟨b, off, none⟩) prods.length cp)).cells 24, blkO ga #[.int .i64 (a : Int)] 3, blkO gw #[.slice (some ⟨gq, 0, none⟩) word.length cw] 30, blkO gr #[.slice (some ⟨g10, 0, none⟩) n n] 89, blkO gl #[.func (.func 54) #[] #[.pointer (some ⟨gg, 0, none⟩), .pointer (some ⟨ga, 0, none⟩), .pointer (some ⟨gw, 0, none⟩), .pointer (some ⟨gr, 0, none⟩), .pointer (some ⟨gl, 0, none⟩)]] 93, rowO 3 1 (.slice (some ⟨gq, 0, none⟩) word.length cw) word.length (word.map (.int .i64)), rowA 30 vals g10 n vs, famP (fun j => j < n) (rowsF prods may T vs n 0), blkO g6 (treeV (pn : Int) k (.slice bk kids.length ck)).cells 46]) (.calm 0 (.calm 1 (.calm 2 (.calm 3 (.calm 4 (.calm 5 (.calm 6 (.calm 7 (.calm 8 (.calm 9 (.calm 10 (.calm 11 (.calm 12 (.calm 13 (.calm 14 (.calm 15 (.done))))))))))))))))) (fun _ h => h) (by kernel_rfl) (by kernel_rfl) (by intro c a d v w h; cases d <;> exact h) ?_
      repeat (first
        | ((first | refine TW_plain rfl rfl ?_ | refine TW_gmet rfl rfl rfl rfl ?_); first | refine TN_val (qp rfl) rfl rfl ?_ | refine TN_val (rr_load1 TyC.ty rfl (at_blk (i := 0) rfl rfl)) rfl rfl ?_ | refine TN_val (rr_load1 TyC.ty rfl (at_blk (i := 3) rfl rfl)) rfl rfl ?_ | refine TN_val (rr_load1 TyC.ty rfl (at_blk (i := 8) rfl rfl)) rfl rfl ?_ | refine TN_val (rr_idxc Und.eq TyC.ty rfl rfl c6) rfl rfl ?_ | refine TN_val (rr_load1 TyC.ty rfl (hat _)) rfl rfl ?_ | refine TN_val (rr_idx1 Und.eq TyC.ty rfl rfl hhn) rfl rfl ?_ | refine TN_val (rr_load1 TyC.ty rfl (hvh _ rfl)) rfl rfl ?_ | refine TN_val (rr_idx1 Und.eq TyC.ty rfl rfl (show col < T + 1 by omega)) rfl rfl ?_ | refine TN_val (rr_load1 TyC.ty rfl (hrc _ rfl)) rfl rfl ?_ | refine TN_val (qlen Und.eq rfl) rfl rfl ?_ | refine TN_val (qfld FldC.fld rfl rfl) rfl rfl ?_ | refine TN_val (rr_not rfl rfl) rfl rfl ?_ | refine TN_val (rr_lss rfl rfl (qT (by omega))) rfl rfl ?_ | refine TN_val (rr_lss rfl rfl (qF (by omega))) rfl rfl ?_ | refine TN_val (rr_neq rfl rfl (qT (by omega))) rfl rfl ?_ | refine TN_val (rr_neq rfl rfl (qF (by omega))) rfl rfl ?_ | refine TN_val (rr_add64 rfl rfl (by omega) (by omega) rfl) rfl rfl ?_)
        | refine TW_done ?_)
      repeat (first
        | refine qv rfl (qp rfl) rfl rfl ?_ | refine TL_nil ?_ | refine T_seq ?_ | refine T_region ?_ | refine qcT rfl ?_ | refine qcF rfl ?_ | refine T_skip ?_
        | refine T_exit ?_ | refine T_ret ?_ | refine T_block ?_ | refine E_then ?_ | refine E_thenX ?_ | refine E_thenR ?_ | refine E_blockN ?_
        | refine E_blockR ?_ | refine E_blockX ?_ | refine E_blockO rfl ?_ | refine qv rfl (rr_load1 TyC.ty rfl (at_blk (i := 8) rfl rfl)) rfl rfl ?_
        | refine qv rfl (qlen Und.eq rfl) rfl rfl ?_ | refine qv rfl (qfld FldC.fld rfl rfl) rfl rfl ?_ | refine qv rfl (rr_not rfl rfl) rfl rfl ?_
        | refine qv rfl (rr_lss rfl rfl (qT (by omega))) rfl rfl ?_ | refine qv rfl (rr_lss rfl rfl (qF (by omega))) rfl rfl ?_
        | refine qv rfl (rr_neq rfl rfl (qT (by omega))) rfl rfl ?_ | refine qv rfl (rr_neq rfl rfl (qF (by omega))) rfl rfl ?_
        | refine qv rfl (rr_add64 rfl rfl (by omega) (by omega) rfl) rfl rfl ?_)
      refine T_pick [0, 1, 2, 3, 4, 5, 6, 7] (by decide) rfl ?_
      refine T_loop (ι := Nat × Nat) (fun (i, a2) => i ≤ kids.length ∧ a2 + leavess (kids.drop i) = a + leavess kids ∧ DetK prods (fun h a => llL.rowAt prods may T h.toNat (colAt T word a)) (kids.drop i) a2) (fun (i, _) => [(2, .pointer (some ⟨ga, 0, none⟩)), (5, .pointer (some ⟨gl, 0, none⟩)), (38, .slice bk kids.length ck), (39, .int .i64 kids.length), (40, .int .i64 (i : Int))])
        (fun (_, a2) => [blkO gg (graV (T : Int) (n : Int) (.slice (some ⟨b, off, none⟩) prods.length cp)).cells 24, blkO ga #[.int .i64 (a2 : Int)] 3, blkO gw #[.slice (some ⟨gq, 0, none⟩) word.length cw] 30, blkO gr #[.slice (some ⟨g10, 0, none⟩) n n] 89, blkO gl #[.func (.func 54) #[] #[.pointer (some ⟨gg, 0, none⟩), .pointer (some ⟨ga, 0, none⟩), .pointer (some ⟨gw, 0, none⟩), .pointer (some ⟨gr, 0, none⟩), .pointer (some ⟨gl, 0, none⟩)]] 93, rowO 3 1 (.slice (some ⟨gq, 0, none⟩) word.length cw) word.length (word.map (.int .i64)), rowA 30 vals g10 n vs, famP (fun j => j < n) (rowsF prods may T vs n 0)]) (fun (i, _) => kids.length - i) (0, a) ⟨Nat.zero_le _, by rw [List.drop_zero], l2⟩ (by repeat' (first | exact True.intro | refine And.intro rfl ?_)) rfl ?_
      rintro ⟨i, a2⟩ ⟨i1, i2, i3⟩
      dsimp only at i1 i2 i3 ⊢
      by_cases c7 : i < kids.length
      · obtain ⟨bk2, offk, rfl, _, hrkk⟩ := hrk (by omega)
        obtain ⟨kb, kc, r1, r2⟩ := kid_at hrkk c7
        have c8 : i < body.length := by omega
        obtain ⟨u2, hRk⟩ := hall i c7 c8
        have hatk : ∀ (L : List Own) (j : Nat) (v : Value), ([.int .i64 kids[i].prod, .int .i64 kids[i].tok, .slice kb kids[i].kids.length kc] : List Value)[j]? = some v → At B L ⟨bk2, offk + i * 3 + j, none⟩ v := fun L j v hj => at_old0 ho (r1 j v hj)
        have hszk : size kids[i] ≤ N := by have := size_mem kids i c7; omega
        have IHk := IH kids[i] hszk
        rw [List.drop_eq_getElem_cons c7] at i2 i3
        clear hrk hrkk r1 IH hall
        generalize kids[i] = kt at *
        generalize body[i] = y at *
        have IHk := IHk (treeV kt.prod kt.tok (.slice kb kt.kids.length kc)) y u2 a2
        obtain ⟨kp, kk, kk2⟩ := kt
        dsimp only [Tree.prod, Tree.tok, Tree.kids] at *
        rw [leavess] at i2
        rw [DetK] at i3
        obtain ⟨i3, i4⟩ := i3
        by_cases c9 : kp < 0
        · rw [leaves, if_pos c9] at i2 i4
          repeat (first
            | refine qv rfl (qp rfl) rfl rfl ?_ | refine TL_nil ?_ | refine T_seq ?_ | refine T_region ?_ | refine qcT rfl ?_ | refine qcF rfl ?_ | refine T_skip ?_
            | refine T_exit ?_ | refine T_ret ?_ | refine T_block ?_ | refine E_then ?_ | refine E_thenX ?_ | refine E_thenR ?_ | refine E_blockN ?_
            | refine E_blockR ?_ | refine E_blockX ?_ | refine E_blockO rfl ?_ | refine qv rfl (rr_idxc Und.eq TyC.ty rfl rfl c7) rfl rfl ?_
            | refine qv rfl (rr_loadN TyC.ty rfl rfl (hatk _)) rfl rfl ?_ | refine qv rfl (qlen Und.eq rfl) rfl rfl ?_
            | refine qv rfl (qfld FldC.fld rfl rfl) rfl rfl ?_ | refine qv rfl (rr_not rfl rfl) rfl rfl ?_
            | refine qv rfl (rr_lss rfl rfl (qT (by omega))) rfl rfl ?_ | refine qv rfl (rr_lss rfl rfl (qF (by omega))) rfl rfl ?_
            | refine qv rfl (rr_neq rfl rfl (qT (by omega))) rfl rfl ?_ | refine qv rfl (rr_neq rfl rfl (qF (by omega))) rfl rfl ?_
            | refine qv rfl (rr_add64 rfl rfl (by omega) (by omega) rfl) rfl rfl ?_)
          refine TL_new rfl fun g10' => ?_
          repeat (first
            | refine qv rfl (qp rfl) rfl rfl ?_ | refine TL_nil ?_ | refine T_seq ?_ | refine T_region ?_ | refine qcT rfl ?_ | refine qcF rfl ?_ | refine T_skip ?_
            | refine T_exit ?_ | refine T_ret ?_ | refine T_block ?_ | refine E_then ?_ | refine E_thenX ?_ | refine E_thenR ?_ | refine E_blockN ?_
            | refine E_blockR ?_ | refine E_blockX ?_ | refine E_blockO rfl ?_ | refine qv rfl (qlen Und.eq rfl) rfl rfl ?_
            | refine qv rfl (qfld FldC.fld rfl rfl) rfl rfl ?_ | refine qv rfl (rr_not rfl rfl) rfl rfl ?_
            | refine qv rfl (rr_lss rfl rfl (qT (by omega))) rfl rfl ?_ | refine qv rfl (rr_lss rfl rfl (qF (by omega))) rfl rfl ?_
            | refine qv rfl (rr_neq rfl rfl (qT (by omega))) rfl rfl ?_ | refine qv rfl (rr_neq rfl rfl (qF (by omega))) rfl rfl ?_
            | refine qv rfl (rr_add64 rfl rfl (by omega) (by omega) rfl) rfl rfl ?_)
          refine TL_storeB (i := 8) rfl rfl rfl rfl rfl rfl ?_
          conv => arg 8; simp only [zA, zB, zC, zD, zE, zF, zG, zH, zI, rowS, ret, id_eq]
          repeat (first
            | refine qv rfl (qp rfl) rfl rfl ?_ | refine TL_nil ?_ | refine T_seq ?_ | refine T_region ?_ | refine qcT rfl ?_ | refine qcF rfl ?_ | refine T_skip ?_
            | refine T_exit ?_ | refine T_ret ?_ | refine T_block ?_ | refine E_then ?_ | refine E_thenX ?_ | refine E_thenR ?_ | refine E_blockN ?_
            | refine E_blockR ?_ | refine E_blockX ?_ | refine E_blockO rfl ?_ | refine qv rfl (rr_load1 TyC.ty rfl (at_blk (i := 1) rfl rfl)) rfl rfl ?_
            | refine qv rfl (rr_load1 TyC.ty rfl (at_blk (i := 8) rfl rfl)) rfl rfl ?_
            | refine qv rfl (rr_add64 (r := ((a2 + 1 : Nat) : Int)) rfl rfl (by omega) (by omega) (by omega)) rfl rfl ?_ | refine qv rfl (qlen Und.eq rfl) rfl rfl ?_
            | refine qv rfl (qfld FldC.fld rfl rfl) rfl rfl ?_ | refine qv rfl (rr_not rfl rfl) rfl rfl ?_
            | refine qv rfl (rr_lss rfl rfl (qT (by omega))) rfl rfl ?_ | refine qv rfl (rr_lss rfl rfl (qF (by omega))) rfl rfl ?_
            | refine qv rfl (rr_neq rfl rfl (qT (by omega))) rfl rfl ?_ | refine qv rfl (rr_neq rfl rfl (qF (by omega))) rfl rfl ?_
            | refine qv rfl (rr_add64 rfl rfl (by omega) (by omega) rfl) rfl rfl ?_)
          refine TL_store1 (i := 1) rfl rfl rfl rfl rfl rfl ?_
          rw [show (#[.int .i64 (a2 : Int)] : Array Value).setIfInBounds 0 (.int .i64 ((a2 + 1 : Nat) : Int)) = #[.int .i64 ((a2 + 1 : Nat) : Int)] from rfl]
          conv => arg 8; simp only [zA, zB, zC, zD, zE, zF, zG, zH, zI, rowS, ret, id_eq]
          repeat (first
            | refine qv rfl (qp rfl) rfl rfl ?_ | refine TL_nil ?_ | refine T_seq ?_ | refine T_region ?_ | refine qcT rfl ?_ | refine qcF rfl ?_ | refine T_skip ?_
            | refine T_exit ?_ | refine T_ret ?_ | refine T_block ?_ | refine E_then ?_ | refine E_thenX ?_ | refine E_thenR ?_ | refine E_blockN ?_
            | refine E_blockR ?_ | refine E_blockX ?_ | refine E_blockO rfl ?_ | refine qv rfl (qlen Und.eq rfl) rfl rfl ?_
            | refine qv rfl (qfld FldC.fld rfl rfl) rfl rfl ?_ | refine qv rfl (rr_not rfl rfl) rfl rfl ?_
            | refine qv rfl (rr_lss rfl rfl (qT (by omega))) rfl rfl ?_ | refine qv rfl (rr_lss rfl rfl (qF (by omega))) rfl rfl ?_
            | refine qv rfl (rr_neq rfl rfl (qT (by omega))) rfl rfl ?_ | refine qv rfl (rr_neq rfl rfl (qF (by omega))) rfl rfl ?_
            | refine qv rfl (rr_add64 rfl rfl (by omega) (by omega) rfl) rfl rfl ?_)
          refine E_pick [0, 1, 2, 3, 4, 5, 6, 7] (by decide) rfl ?_
          exact E_round (i + 1, a2 + 1) ⟨by omega, (by show a2 + 1 + leavess (kids.drop (i + 1)) = a + leavess kids; omega), i4⟩ (by show kids.length - (i + 1) < kids.length - i; omega) (by repeat' (first | exact True.intro | refine And.intro rfl ?_)) rfl
        · have hk0 : 0 ≤ kp := by omega
          have hd2 := i3.resolve_left c9
          generalize leaves (.mk kp kk kk2) = lv at *
          repeat (first
            | refine qv rfl (qp rfl) rfl rfl ?_ | refine TL_nil ?_ | refine T_seq ?_ | refine T_region ?_ | refine qcT rfl ?_ | refine qcF rfl ?_ | refine T_skip ?_
            | refine T_exit ?_ | refine T_ret ?_ | refine T_block ?_ | refine E_then ?_ | refine E_thenX ?_ | refine E_thenR ?_ | refine E_blockN ?_
            | refine E_blockR ?_ | refine E_blockX ?_ | refine E_blockO rfl ?_ | refine qv rfl (rr_idxc Und.eq TyC.ty rfl rfl c7) rfl rfl ?_
            | refine qv rfl (rr_loadN TyC.ty rfl rfl (hatk _)) rfl rfl ?_ | refine qv rfl (qlen Und.eq rfl) rfl rfl ?_
            | refine qv rfl (qfld FldC.fld rfl rfl) rfl rfl ?_ | refine qv rfl (rr_not rfl rfl) rfl rfl ?_
            | refine qv rfl (rr_lss rfl rfl (qT (by omega))) rfl rfl ?_ | refine qv rfl (rr_lss rfl rfl (qF (by omega))) rfl rfl ?_
            | refine qv rfl (rr_neq rfl rfl (qT (by omega))) rfl rfl ?_ | refine qv rfl (rr_neq rfl rfl (qF (by omega))) rfl rfl ?_
            | refine qv rfl (rr_add64 rfl rfl (by omega) (by omega) rfl) rfl rfl ?_)
          refine TL_new rfl fun g10' => ?_
          repeat (first
            | refine qv rfl (qp rfl) rfl rfl ?_ | refine TL_nil ?_ | refine T_seq ?_ | refine T_region ?_ | refine qcT rfl ?_ | refine qcF rfl ?_ | refine T_skip ?_
            | refine T_exit ?_ | refine T_ret ?_ | refine T_block ?_ | refine E_then ?_ | refine E_thenX ?_ | refine E_thenR ?_ | refine E_blockN ?_
            | refine E_blockR ?_ | refine E_blockX ?_ | refine E_blockO rfl ?_ | refine qv rfl (qlen Und.eq rfl) rfl rfl ?_
            | refine qv rfl (qfld FldC.fld rfl rfl) rfl rfl ?_ | refine qv rfl (rr_not rfl rfl) rfl rfl ?_
            | refine qv rfl (rr_lss rfl rfl (qT (by omega))) rfl rfl ?_ | refine qv rfl (rr_lss rfl rfl (qF (by omega))) rfl rfl ?_
            | refine qv rfl (rr_neq rfl rfl (qT (by omega))) rfl rfl ?_ | refine qv rfl (rr_neq rfl rfl (qF (by omega))) rfl rfl ?_
            | refine qv rfl (rr_add64 rfl rfl (by omega) (by omega) rfl) rfl rfl ?_)
          refine TL_storeB (i := 8) rfl rfl rfl rfl rfl rfl ?_
          conv => arg 8; simp only [zA, zB, zC, zD, zE, zF, zG, zH, zI, rowS, ret, id_eq]
          repeat (first
            | refine qv rfl (qp rfl) rfl rfl ?_ | refine TL_nil ?_ | refine T_seq ?_ | refine T_region ?_ | refine qcT rfl ?_ | refine qcF rfl ?_ | refine T_skip ?_
            | refine T_exit ?_ | refine T_ret ?_ | refine T_block ?_ | refine E_then ?_ | refine E_thenX ?_ | refine E_thenR ?_ | refine E_blockN ?_
            | refine E_blockR ?_ | refine E_blockX ?_ | refine E_blockO rfl ?_ | refine qv rfl (rr_load1 TyC.ty rfl (at_blk (i := 4) rfl rfl)) rfl rfl ?_
            | refine qv rfl (rr_load1 TyC.ty rfl (at_blk (i := 8) rfl rfl)) rfl rfl ?_ | refine qv rfl (rr_loadB (i := 8) TyC.ty rfl rfl rfl) rfl rfl ?_
            | refine qv rfl (qlen Und.eq rfl) rfl rfl ?_ | refine qv rfl (qfld FldC.fld rfl rfl) rfl rfl ?_ | refine qv rfl (rr_not rfl rfl) rfl rfl ?_
            | refine qv rfl (rr_lss rfl rfl (qT (by omega))) rfl rfl ?_ | refine qv rfl (rr_lss rfl rfl (qF (by omega))) rfl rfl ?_
            | refine qv rfl (rr_neq rfl rfl (qT (by omega))) rfl rfl ?_ | refine qv rfl (rr_neq rfl rfl (qF (by omega))) rfl rfl ?_
            | refine qv rfl (rr_add64 rfl rfl (by omega) (by omega) rfl) rfl rfl ?_)
          refine TL_callB [0, 1, 2, 3, 4, 5, 6, 7] [8] (by decide) rfl rfl (he1c EntersC.en rfl rfl) (fun w hm hb => IHk w _ r2 hRk hk0 hd2 (by omega) (ho.on hm fun o h => pick_mem h) hb) rfl rfl rfl ?_
          intro _ _
          conv => arg 8; simp only [zA, zB, zC, zD, zE, zF, zG, zH, zI, rowS, ret, id_eq, llS]
          repeat (first
            | refine qv rfl (qp rfl) rfl rfl ?_ | refine TL_nil ?_ | refine T_seq ?_ | refine T_region ?_ | refine qcT rfl ?_ | refine qcF rfl ?_ | refine T_skip ?_
            | refine T_exit ?_ | refine T_ret ?_ | refine T_block ?_ | refine E_then ?_ | refine E_thenX ?_ | refine E_thenR ?_ | refine E_blockN ?_
            | refine E_blockR ?_ | refine E_blockX ?_ | refine E_blockO rfl ?_ | refine qv rfl (qlen Und.eq rfl) rfl rfl ?_
            | refine qv rfl (qfld FldC.fld rfl rfl) rfl rfl ?_ | refine qv rfl (rr_not rfl rfl) rfl rfl ?_
            | refine qv rfl (rr_lss rfl rfl (qT (by omega))) rfl rfl ?_ | refine qv rfl (rr_lss rfl rfl (qF (by omega))) rfl rfl ?_
            | refine qv rfl (rr_neq rfl rfl (qT (by omega))) rfl rfl ?_ | refine qv rfl (rr_neq rfl rfl (qF (by omega))) rfl rfl ?_
            | refine qv rfl (rr_add64 rfl rfl (by omega) (by omega) rfl) rfl rfl ?_)
          refine E_pick [1, 2, 3, 4, 5, 6, 7, 8] (by decide) rfl ?_
          exact E_round (i + 1, a2 + lv) ⟨by omega, (by show a2 + lv + leavess (kids.drop (i + 1)) = a + leavess kids; omega), i4⟩ (by show kids.length - (i + 1) < kids.length - i; omega) (by repeat' (first | exact True.intro | refine And.intro rfl ?_)) rfl
      · rw [List.drop_of_length_le (by omega), leavess] at i2
        obtain rfl : a2 = a + leavess kids := by omega
        repeat (first
          | refine qv rfl (qp rfl) rfl rfl ?_ | refine TL_nil ?_ | refine T_seq ?_ | refine T_region ?_ | refine qcT rfl ?_ | refine qcF rfl ?_ | refine T_skip ?_
          | refine T_exit ?_ | refine T_ret ?_ | refine T_block ?_ | refine E_then ?_ | refine E_thenX ?_ | refine E_thenR ?_ | refine E_blockN ?_
          | refine E_blockR ?_ | refine E_blockX ?_ | refine E_blockO rfl ?_ | refine qv rfl (qlen Und.eq rfl) rfl rfl ?_
          | refine qv rfl (qfld FldC.fld rfl rfl) rfl rfl ?_ | refine qv rfl (rr_not rfl rfl) rfl rfl ?_
          | refine qv rfl (rr_lss rfl rfl (qT (by omega))) rfl rfl ?_ | refine qv rfl (rr_lss rfl rfl (qF (by omega))) rfl rfl ?_
          | refine qv rfl (rr_neq rfl rfl (qT (by omega))) rfl rfl ?_ | refine qv rfl (rr_neq rfl rfl (qF (by omega))) rfl rfl ?_
          | refine qv rfl (rr_add64 rfl rfl (by omega) (by omega) rfl) rfl rfl ?_)
        exact E_ret1 rfl rfl fun w hm => hm.meetsB (S := ⟨fun (_ : Unit) => True, fun _ => .bool true, fun _ => [blkO gg (graV (T : Int) (n : Int) (.slice (some ⟨b, off, none⟩) prods.length cp)).cells 24, blkO ga #[.int .i64 ((a + leavess kids : Nat) : Int)] 3, blkO gw #[.slice (some ⟨gq, 0, none⟩) word.length cw] 30, blkO gr #[.slice (some ⟨g10, 0, none⟩) n n] 89, blkO gl #[.func (.func 54) #[] #[.pointer (some ⟨gg, 0, none⟩), .pointer (some ⟨ga, 0, none⟩), .pointer (some ⟨gw, 0, none⟩), .pointer (some ⟨gr, 0, none⟩), .pointer (some ⟨gl, 0, none⟩)]] 93, rowO 3 1 (.slice (some ⟨gq, 0, none⟩) word.length cw) word.length (word.map (.int .i64)), rowA 30 vals g10 n vs, famP (fun j => j < n) (rowsF prods may T vs n 0)]⟩) () trivial [0, 1, 2, 3, 4, 5, 6, 7] (by decide) rfl
    · have hct : colAt T word a = T := by unfold colAt; rw [if_neg c0]
      rw [hct] at hrc
      repeat (first
        | refine qv rfl (qp rfl) rfl rfl ?_ | refine TL_nil ?_ | refine T_seq ?_ | refine T_region ?_ | refine qcT rfl ?_ | refine qcF rfl ?_ | refine T_skip ?_
        | refine T_exit ?_ | refine T_ret ?_ | refine T_block ?_ | refine E_then ?_ | refine E_thenX ?_ | refine E_thenR ?_ | refine E_blockN ?_
        | refine E_blockR ?_ | refine E_blockX ?_ | refine E_blockO rfl ?_ | refine qv rfl (rr_load1 TyC.ty rfl (at_blk (i := 0) rfl rfl)) rfl rfl ?_
        | refine qv rfl (rr_load1 TyC.ty rfl (at_blk (i := 1) rfl rfl)) rfl rfl ?_ | refine qv rfl (rr_load1 TyC.ty rfl (at_blk (i := 2) rfl rfl)) rfl rfl ?_
        | refine qv rfl (qlen Und.eq rfl) rfl rfl ?_ | refine qv rfl (qfld FldC.fld rfl rfl) rfl rfl ?_ | refine qv rfl (rr_not rfl rfl) rfl rfl ?_
        | refine qv rfl (rr_lss rfl rfl (qT (by omega))) rfl rfl ?_ | refine qv rfl (rr_lss rfl rfl (qF (by omega))) rfl rfl ?_
        | refine qv rfl (rr_neq rfl rfl (qT (by omega))) rfl rfl ?_ | refine qv rfl (rr_neq rfl rfl (qF (by omega))) rfl rfl ?_
        | refine qv rfl (rr_add64 rfl rfl (by omega) (by omega) rfl) rfl rfl ?_)
      refine T_ord ([blkO gg (graV (T : Int) (n : Int) (.slice (some ⟨b, off, none⟩) prods.length cp)).cells 24, blkO ga #[.int .i64 (a : Int)] 3, blkO gw #[.slice bw word.length cw] 30, blkO gr #[.slice (some ⟨g10, 0, none⟩) n n] 89, blkO gl #[.func (.func 54) #[] #[.pointer (some ⟨gg, 0, none⟩), .pointer (some ⟨ga, 0, none⟩), .pointer (some ⟨gw, 0, none⟩), .pointer (some ⟨gr, 0, none⟩), .pointer (some ⟨gl, 0, none⟩)]] 93, rowO 3 1 (.slice bw word.length cw) word.length (word.map (.int .i64)), rowA 30 vals g10 n vs, famP (fun j => j < n) (rowsF prods may T vs n 0), blkO g6 (treeV (pn : Int) k (.slice bk kids.length ck)).cells 46]) (.calm 0 (.calm 1 (.calm 2 (.calm 3 (.calm 4 (.calm 5 (.calm 6 (.calm 7 (.calm 8 (.calm 9 (.calm 10 (.calm 11 (.calm 12 (.calm 13 (.calm 14 (.calm 15 (.done))))))))))))))))) (fun _ h => h) (by kernel_rfl) (by kernel_rfl) (by intro c a d v w h; cases d <;> exact h) ?_
      repeat (first
        | ((first | refine TW_plain rfl rfl ?_ | refine TW_gmet rfl rfl rfl rfl ?_); first | refine TN_val (qp rfl) rfl rfl ?_ | refine TN_val (rr_load1 TyC.ty rfl (at_blk (i := 0) rfl rfl)) rfl rfl ?_ | refine TN_val (rr_load1 TyC.ty rfl (at_blk (i := 3) rfl rfl)) rfl rfl ?_ | refine TN_val (rr_load1 TyC.ty rfl (at_blk (i := 8) rfl rfl)) rfl rfl ?_ | refine TN_val (rr_idxc Und.eq TyC.ty rfl rfl c6) rfl rfl ?_ | refine TN_val (rr_load1 TyC.ty rfl (hat _)) rfl rfl ?_ | refine TN_val (rr_idx1 Und.eq TyC.ty rfl rfl hhn) rfl rfl ?_ | refine TN_val (rr_load1 TyC.ty rfl (hvh _ rfl)) rfl rfl ?_ | refine TN_val (rr_idx1 Und.eq TyC.ty rfl rfl (show T < T + 1 by omega)) rfl rfl ?_ | refine TN_val (rr_load1 TyC.ty rfl (hrc _ rfl)) rfl rfl ?_ | refine TN_val (qlen Und.eq rfl) rfl rfl ?_ | refine TN_val (qfld FldC.fld rfl rfl) rfl rfl ?_ | refine TN_val (rr_not rfl rfl) rfl rfl ?_ | refine TN_val (rr_lss rfl rfl (qT (by omega))) rfl rfl ?_ | refine TN_val (rr_lss rfl rfl (qF (by omega))) rfl rfl ?_ | refine TN_val (rr_neq rfl rfl (qT (by omega))) rfl rfl ?_ | refine TN_val (rr_neq rfl rfl (qF (by omega))) rfl rfl ?_ | refine TN_val (rr_add64 rfl rfl (by omega) (by omega) rfl) rfl rfl ?_)
        | refine TW_done ?_)
      repeat (first
        | refine qv rfl (qp rfl) rfl rfl ?_ | refine TL_nil ?_ | refine T_seq ?_ | refine T_region ?_ | refine qcT rfl ?_ | refine qcF rfl ?_ | refine T_skip ?_
        | refine T_exit ?_ | refine T_ret ?_ | refine T_block ?_ | refine E_then ?_ | refine E_thenX ?_ | refine E_thenR ?_ | refine E_blockN ?_
        | refine E_blockR ?_ | refine E_blockX ?_ | refine E_blockO rfl ?_ | refine qv rfl (rr_load1 TyC.ty rfl (at_blk (i := 8) rfl rfl)) rfl rfl ?_
        | refine qv rfl (qlen Und.eq rfl) rfl rfl ?_ | refine qv rfl (qfld FldC.fld rfl rfl) rfl rfl ?_ | refine qv rfl (rr_not rfl rfl) rfl rfl ?_
        | refine qv rfl (rr_lss rfl rfl (qT (by omega))) rfl rfl ?_ | refine qv rfl (rr_lss rfl rfl (qF (by omega))) rfl rfl ?_
        | refine qv rfl (rr_neq rfl rfl (qT (by omega))) rfl rfl ?_ | refine qv rfl (rr_neq rfl rfl (qF (by omega))) rfl rfl ?_
        | refine qv rfl (rr_add64 rfl rfl (by omega) (by omega) rfl) rfl rfl ?_)
      refine T_pick [0, 1, 2, 3, 4, 5, 6, 7] (by decide) rfl ?_
      refine T_loop (ι := Nat × Nat) (fun (i, a2) => i ≤ kids.length ∧ a2 + leavess (kids.drop i) = a + leavess kids ∧ DetK prods (fun h a => llL.rowAt prods may T h.toNat (colAt T word a)) (kids.drop i) a2) (fun (i, _) => [(2, .pointer (some ⟨ga, 0, none⟩)), (5, .pointer (some ⟨gl, 0, none⟩)), (38, .slice bk kids.length ck), (39, .int .i64 kids.length), (40, .int .i64 (i : Int))])
        (fun (_, a2) => [blkO gg (graV (T : Int) (n : Int) (.slice (some ⟨b, off, none⟩) prods.length cp)).cells 24, blkO ga #[.int .i64 (a2 : Int)] 3, blkO gw #[.slice bw word.length cw] 30, blkO gr #[.slice (some ⟨g10, 0, none⟩) n n] 89, blkO gl #[.func (.func 54) #[] #[.pointer (some ⟨gg, 0, none⟩), .pointer (some ⟨ga, 0, none⟩), .pointer (some ⟨gw, 0, none⟩), .pointer (some ⟨gr, 0, none⟩), .pointer (some ⟨gl, 0, none⟩)]] 93, rowO 3 1 (.slice bw word.length cw) word.length (word.map (.int .i64)), rowA 30 vals g10 n vs, famP (fun j => j < n) (rowsF prods may T vs n 0)]) (fun (i, _) => kids.length - i) (0, a) ⟨Nat.zero_le _, by rw [List.drop_zero], l2⟩ (by repeat' (first | exact True.intro | refine And.intro rfl ?_)) rfl ?_
      rintro ⟨i, a2⟩ ⟨i1, i2, i3⟩
      dsimp only at i1 i2 i3 ⊢
      by_cases c7 : i < kids.length
      · obtain ⟨bk2, offk, rfl, _, hrkk⟩ := hrk (by omega)
        obtain ⟨kb, kc, r1, r2⟩ := kid_at hrkk c7
        have c8 : i < body.length := by omega
        obtain ⟨u2, hRk⟩ := hall i c7 c8
        have hatk : ∀ (L : List Own) (j : Nat) (v : Value), ([.int .i64 kids[i].prod, .int .i64 kids[i].tok, .slice kb kids[i].kids.length kc] : List Value)[j]? = some v → At B L ⟨bk2, offk + i * 3 + j, none⟩ v := fun L j v hj => at_old0 ho (r1 j v hj)
        have hszk : size kids[i] ≤ N := by have := size_mem kids i c7; omega
        have IHk := IH kids[i] hszk
        rw [List.drop_eq_getElem_cons c7] at i2 i3
        clear hrk hrkk r1 IH hall
        generalize kids[i] = kt at *
        generalize body[i] = y at *
        have IHk := IHk (treeV kt.prod kt.tok (.slice kb kt.kids.length kc)) y u2 a2
        obtain ⟨kp, kk, kk2⟩ := kt
        dsimp only [Tree.prod, Tree.tok, Tree.kids] at *
        rw [leavess] at i2
        rw [DetK] at i3
        obtain ⟨i3, i4⟩ := i3
        by_cases c9 : kp < 0
        · rw [leaves, if_pos c9] at i2 i4
          repeat (first
            | refine qv rfl (qp rfl) rfl rfl ?_ | refine TL_nil ?_ | refine T_seq ?_ | refine T_region ?_ | refine qcT rfl ?_ | refine qcF rfl ?_ | refine T_skip ?_
            | refine T_exit ?_ | refine T_ret ?_ | refine T_block ?_ | refine E_then ?_ | refine E_thenX ?_ | refine E_thenR ?_ | refine E_blockN ?_
            | refine E_blockR ?_ | refine E_blockX ?_ | refine E_blockO rfl ?_ | refine qv rfl (rr_idxc Und.eq TyC.ty rfl rfl c7) rfl rfl ?_
            | refine qv rfl (rr_loadN TyC.ty rfl rfl (hatk _)) rfl rfl ?_ | refine qv rfl (qlen Und.eq rfl) rfl rfl ?_
            | refine qv rfl (qfld FldC.fld rfl rfl) rfl rfl ?_ | refine qv rfl (rr_not rfl rfl) rfl rfl ?_
            | refine qv rfl (rr_lss rfl rfl (qT (by omega))) rfl rfl ?_ | refine qv rfl (rr_lss rfl rfl (qF (by omega))) rfl rfl ?_
            | refine qv rfl (rr_neq rfl rfl (qT (by omega))) rfl rfl ?_ | refine qv rfl (rr_neq rfl rfl (qF (by omega))) rfl rfl ?_
            | refine qv rfl (rr_add64 rfl rfl (by omega) (by omega) rfl) rfl rfl ?_)
          refine TL_new rfl fun g10' => ?_
          repeat (first
            | refine qv rfl (qp rfl) rfl rfl ?_ | refine TL_nil ?_ | refine T_seq ?_ | refine T_region ?_ | refine qcT rfl ?_ | refine qcF rfl ?_ | refine T_skip ?_
            | refine T_exit ?_ | refine T_ret ?_ | refine T_block ?_ | refine E_then ?_ | refine E_thenX ?_ | refine E_thenR ?_ | refine E_blockN ?_
            | refine E_blockR ?_ | refine E_blockX ?_ | refine E_blockO rfl ?_ | refine qv rfl (qlen Und.eq rfl) rfl rfl ?_
            | refine qv rfl (qfld FldC.fld rfl rfl) rfl rfl ?_ | refine qv rfl (rr_not rfl rfl) rfl rfl ?_
            | refine qv rfl (rr_lss rfl rfl (qT (by omega))) rfl rfl ?_ | refine qv rfl (rr_lss rfl rfl (qF (by omega))) rfl rfl ?_
            | refine qv rfl (rr_neq rfl rfl (qT (by omega))) rfl rfl ?_ | refine qv rfl (rr_neq rfl rfl (qF (by omega))) rfl rfl ?_
            | refine qv rfl (rr_add64 rfl rfl (by omega) (by omega) rfl) rfl rfl ?_)
          refine TL_storeB (i := 8) rfl rfl rfl rfl rfl rfl ?_
          conv => arg 8; simp only [zA, zB, zC, zD, zE, zF, zG, zH, zI, rowS, ret, id_eq]
          repeat (first
            | refine qv rfl (qp rfl) rfl rfl ?_ | refine TL_nil ?_ | refine T_seq ?_ | refine T_region ?_ | refine qcT rfl ?_ | refine qcF rfl ?_ | refine T_skip ?_
            | refine T_exit ?_ | refine T_ret ?_ | refine T_block ?_ | refine E_then ?_ | refine E_thenX ?_ | refine E_thenR ?_ | refine E_blockN ?_
            | refine E_blockR ?_ | refine E_blockX ?_ | refine E_blockO rfl ?_ | refine qv rfl (rr_load1 TyC.ty rfl (at_blk (i := 1) rfl rfl)) rfl rfl ?_
            | refine qv rfl (rr_load1 TyC.ty rfl (at_blk (i := 8) rfl rfl)) rfl rfl ?_
            | refine qv rfl (rr_add64 (r := ((a2 + 1 : Nat) : Int)) rfl rfl (by omega) (by omega) (by omega)) rfl rfl ?_ | refine qv rfl (qlen Und.eq rfl) rfl rfl ?_
            | refine qv rfl (qfld FldC.fld rfl rfl) rfl rfl ?_ | refine qv rfl (rr_not rfl rfl) rfl rfl ?_
            | refine qv rfl (rr_lss rfl rfl (qT (by omega))) rfl rfl ?_ | refine qv rfl (rr_lss rfl rfl (qF (by omega))) rfl rfl ?_
            | refine qv rfl (rr_neq rfl rfl (qT (by omega))) rfl rfl ?_ | refine qv rfl (rr_neq rfl rfl (qF (by omega))) rfl rfl ?_
            | refine qv rfl (rr_add64 rfl rfl (by omega) (by omega) rfl) rfl rfl ?_)
          refine TL_store1 (i := 1) rfl rfl rfl rfl rfl rfl ?_
          rw [show (#[.int .i64 (a2 : Int)] : Array Value).setIfInBounds 0 (.int .i64 ((a2 + 1 : Nat) : Int)) = #[.int .i64 ((a2 + 1 : Nat) : Int)] from rfl]
          conv => arg 8; simp only [zA, zB, zC, zD, zE, zF, zG, zH, zI, rowS, ret, id_eq]
          repeat (first
            | refine qv rfl (qp rfl) rfl rfl ?_ | refine TL_nil ?_ | refine T_seq ?_ | refine T_region ?_ | refine qcT rfl ?_ | refine qcF rfl ?_ | refine T_skip ?_
            | refine T_exit ?_ | refine T_ret ?_ | refine T_block ?_ | refine E_then ?_ | refine E_thenX ?_ | refine E_thenR ?_ | refine E_blockN ?_
            | refine E_blockR ?_ | refine E_blockX ?_ | refine E_blockO rfl ?_ | refine qv rfl (qlen Und.eq rfl) rfl rfl ?_
            | refine qv rfl (qfld FldC.fld rfl rfl) rfl rfl ?_ | refine qv rfl (rr_not rfl rfl) rfl rfl ?_
            | refine qv rfl (rr_lss rfl rfl (qT (by omega))) rfl rfl ?_ | refine qv rfl (rr_lss rfl rfl (qF (by omega))) rfl rfl ?_
            | refine qv rfl (rr_neq rfl rfl (qT (by omega))) rfl rfl ?_ | refine qv rfl (rr_neq rfl rfl (qF (by omega))) rfl rfl ?_
            | refine qv rfl (rr_add64 rfl rfl (by omega) (by omega) rfl) rfl rfl ?_)
          refine E_pick [0, 1, 2, 3, 4, 5, 6, 7] (by decide) rfl ?_
          exact E_round (i + 1, a2 + 1) ⟨by omega, (by show a2 + 1 + leavess (kids.drop (i + 1)) = a + leavess kids; omega), i4⟩ (by show kids.length - (i + 1) < kids.length - i; omega) (by repeat' (first | exact True.intro | refine And.intro rfl ?_)) rfl
        · have hk0 : 0 ≤ kp := by omega
          have hd2 := i3.resolve_left c9
          generalize leaves (.mk kp kk kk2) = lv at *
          repeat (first
            | refine qv rfl (qp rfl) rfl rfl ?_ | refine TL_nil ?_ | refine T_seq ?_ | refine T_region ?_ | refine qcT rfl ?_ | refine qcF rfl ?_ | refine T_skip ?_
            | refine T_exit ?_ | refine T_ret ?_ | refine T_block ?_ | refine E_then ?_ | refine E_thenX ?_ | refine E_thenR ?_ | refine E_blockN ?_
            | refine E_blockR ?_ | refine E_blockX ?_ | refine E_blockO rfl ?_ | refine qv rfl (rr_idxc Und.eq TyC.ty rfl rfl c7) rfl rfl ?_
            | refine qv rfl (rr_loadN TyC.ty rfl rfl (hatk _)) rfl rfl ?_ | refine qv rfl (qlen Und.eq rfl) rfl rfl ?_
            | refine qv rfl (qfld FldC.fld rfl rfl) rfl rfl ?_ | refine qv rfl (rr_not rfl rfl) rfl rfl ?_
            | refine qv rfl (rr_lss rfl rfl (qT (by omega))) rfl rfl ?_ | refine qv rfl (rr_lss rfl rfl (qF (by omega))) rfl rfl ?_
            | refine qv rfl (rr_neq rfl rfl (qT (by omega))) rfl rfl ?_ | refine qv rfl (rr_neq rfl rfl (qF (by omega))) rfl rfl ?_
            | refine qv rfl (rr_add64 rfl rfl (by omega) (by omega) rfl) rfl rfl ?_)
          refine TL_new rfl fun g10' => ?_
          repeat (first
            | refine qv rfl (qp rfl) rfl rfl ?_ | refine TL_nil ?_ | refine T_seq ?_ | refine T_region ?_ | refine qcT rfl ?_ | refine qcF rfl ?_ | refine T_skip ?_
            | refine T_exit ?_ | refine T_ret ?_ | refine T_block ?_ | refine E_then ?_ | refine E_thenX ?_ | refine E_thenR ?_ | refine E_blockN ?_
            | refine E_blockR ?_ | refine E_blockX ?_ | refine E_blockO rfl ?_ | refine qv rfl (qlen Und.eq rfl) rfl rfl ?_
            | refine qv rfl (qfld FldC.fld rfl rfl) rfl rfl ?_ | refine qv rfl (rr_not rfl rfl) rfl rfl ?_
            | refine qv rfl (rr_lss rfl rfl (qT (by omega))) rfl rfl ?_ | refine qv rfl (rr_lss rfl rfl (qF (by omega))) rfl rfl ?_
            | refine qv rfl (rr_neq rfl rfl (qT (by omega))) rfl rfl ?_ | refine qv rfl (rr_neq rfl rfl (qF (by omega))) rfl rfl ?_
            | refine qv rfl (rr_add64 rfl rfl (by omega) (by omega) rfl) rfl rfl ?_)
          refine TL_storeB (i := 8) rfl rfl rfl rfl rfl rfl ?_
          conv => arg 8; simp only [zA, zB, zC, zD, zE, zF, zG, zH, zI, rowS, ret, id_eq]
          repeat (first
            | refine qv rfl (qp rfl) rfl rfl ?_ | refine TL_nil ?_ | refine T_seq ?_ | refine T_region ?_ | refine qcT rfl ?_ | refine qcF rfl ?_ | refine T_skip ?_
            | refine T_exit ?_ | refine T_ret ?_ | refine T_block ?_ | refine E_then ?_ | refine E_thenX ?_ | refine E_thenR ?_ | refine E_blockN ?_
            | refine E_blockR ?_ | refine E_blockX ?_ | refine E_blockO rfl ?_ | refine qv rfl (rr_load1 TyC.ty rfl (at_blk (i := 4) rfl rfl)) rfl rfl ?_
            | refine qv rfl (rr_load1 TyC.ty rfl (at_blk (i := 8) rfl rfl)) rfl rfl ?_ | refine qv rfl (rr_loadB (i := 8) TyC.ty rfl rfl rfl) rfl rfl ?_
            | refine qv rfl (qlen Und.eq rfl) rfl rfl ?_ | refine qv rfl (qfld FldC.fld rfl rfl) rfl rfl ?_ | refine qv rfl (rr_not rfl rfl) rfl rfl ?_
            | refine qv rfl (rr_lss rfl rfl (qT (by omega))) rfl rfl ?_ | refine qv rfl (rr_lss rfl rfl (qF (by omega))) rfl rfl ?_
            | refine qv rfl (rr_neq rfl rfl (qT (by omega))) rfl rfl ?_ | refine qv rfl (rr_neq rfl rfl (qF (by omega))) rfl rfl ?_
            | refine qv rfl (rr_add64 rfl rfl (by omega) (by omega) rfl) rfl rfl ?_)
          refine TL_callB [0, 1, 2, 3, 4, 5, 6, 7] [8] (by decide) rfl rfl (he1c EntersC.en rfl rfl) (fun w hm hb => IHk w _ r2 hRk hk0 hd2 (by omega) (ho.on hm fun o h => pick_mem h) hb) rfl rfl rfl ?_
          intro _ _
          conv => arg 8; simp only [zA, zB, zC, zD, zE, zF, zG, zH, zI, rowS, ret, id_eq, llS]
          repeat (first
            | refine qv rfl (qp rfl) rfl rfl ?_ | refine TL_nil ?_ | refine T_seq ?_ | refine T_region ?_ | refine qcT rfl ?_ | refine qcF rfl ?_ | refine T_skip ?_
            | refine T_exit ?_ | refine T_ret ?_ | refine T_block ?_ | refine E_then ?_ | refine E_thenX ?_ | refine E_thenR ?_ | refine E_blockN ?_
            | refine E_blockR ?_ | refine E_blockX ?_ | refine E_blockO rfl ?_ | refine qv rfl (qlen Und.eq rfl) rfl rfl ?_
            | refine qv rfl (qfld FldC.fld rfl rfl) rfl rfl ?_ | refine qv rfl (rr_not rfl rfl) rfl rfl ?_
            | refine qv rfl (rr_lss rfl rfl (qT (by omega))) rfl rfl ?_ | refine qv rfl (rr_lss rfl rfl (qF (by omega))) rfl rfl ?_
            | refine qv rfl (rr_neq rfl rfl (qT (by omega))) rfl rfl ?_ | refine qv rfl (rr_neq rfl rfl (qF (by omega))) rfl rfl ?_
            | refine qv rfl (rr_add64 rfl rfl (by omega) (by omega) rfl) rfl rfl ?_)
          refine E_pick [1, 2, 3, 4, 5, 6, 7, 8] (by decide) rfl ?_
          exact E_round (i + 1, a2 + lv) ⟨by omega, (by show a2 + lv + leavess (kids.drop (i + 1)) = a + leavess kids; omega), i4⟩ (by show kids.length - (i + 1) < kids.length - i; omega) (by repeat' (first | exact True.intro | refine And.intro rfl ?_)) rfl
      · rw [List.drop_of_length_le (by omega), leavess] at i2
        obtain rfl : a2 = a + leavess kids := by omega
        repeat (first
          | refine qv rfl (qp rfl) rfl rfl ?_ | refine TL_nil ?_ | refine T_seq ?_ | refine T_region ?_ | refine qcT rfl ?_ | refine qcF rfl ?_ | refine T_skip ?_
          | refine T_exit ?_ | refine T_ret ?_ | refine T_block ?_ | refine E_then ?_ | refine E_thenX ?_ | refine E_thenR ?_ | refine E_blockN ?_
          | refine E_blockR ?_ | refine E_blockX ?_ | refine E_blockO rfl ?_ | refine qv rfl (qlen Und.eq rfl) rfl rfl ?_
          | refine qv rfl (qfld FldC.fld rfl rfl) rfl rfl ?_ | refine qv rfl (rr_not rfl rfl) rfl rfl ?_
          | refine qv rfl (rr_lss rfl rfl (qT (by omega))) rfl rfl ?_ | refine qv rfl (rr_lss rfl rfl (qF (by omega))) rfl rfl ?_
          | refine qv rfl (rr_neq rfl rfl (qT (by omega))) rfl rfl ?_ | refine qv rfl (rr_neq rfl rfl (qF (by omega))) rfl rfl ?_
          | refine qv rfl (rr_add64 rfl rfl (by omega) (by omega) rfl) rfl rfl ?_)
        exact E_ret1 rfl rfl fun w hm => hm.meetsB (S := ⟨fun (_ : Unit) => True, fun _ => .bool true, fun _ => [blkO gg (graV (T : Int) (n : Int) (.slice (some ⟨b, off, none⟩) prods.length cp)).cells 24, blkO ga #[.int .i64 ((a + leavess kids : Nat) : Int)] 3, blkO gw #[.slice bw word.length cw] 30, blkO gr #[.slice (some ⟨g10, 0, none⟩) n n] 89, blkO gl #[.func (.func 54) #[] #[.pointer (some ⟨gg, 0, none⟩), .pointer (some ⟨ga, 0, none⟩), .pointer (some ⟨gw, 0, none⟩), .pointer (some ⟨gr, 0, none⟩), .pointer (some ⟨gl, 0, none⟩)]] 93, rowO 3 1 (.slice bw word.length cw) word.length (word.map (.int .i64)), rowA 30 vals g10 n vs, famP (fun j => j < n) (rowsF prods may T vs n 0)]⟩) () trivial [0, 1, 2, 3, 4, 5, 6, 7] (by decide) rfl
end Go.Proofs.Ytnicebdkejkieaa.eng
