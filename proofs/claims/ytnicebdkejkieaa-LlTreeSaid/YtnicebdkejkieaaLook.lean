/- What looker.node does to a tree that is right. -/
import Derived.Test.YtnicebdkejkieaaTreeC
import Derived.Test.YtnicebdkejkieaaFactsT
namespace Go.Proofs.Ytnicebdkejkieaa.eng
open Go.RowKit kit mix gramL treeL factsL countL
theorem shrN {P : Program} (x m : Nat) (hm : m < 64) (w : World) : (Op.shift .shr .u64 (x : Int) .i64 (m : Int)).run P w = .ok (.int .u64 ((x >>> m : Nat) : Int)) w := by
  have e : min m 64 = m := by omega
  have h0 : ¬ ((m : Int) < 0) := by omega
  have e2 : (x : Int).fdiv (2 ^ m) = ((x >>> m : Nat) : Int) := by
    have e3 : (2 : Int) ^ m = ((2 ^ m : Nat) : Int) := by rw [Int.natCast_pow]; rfl
    rw [Int.fdiv_eq_ediv_of_nonneg _ (by have : (0 : Int) < 2 ^ m := Int.pow_pos (by decide); omega), e3, Nat.shiftRight_eq_div_pow, ← Int.natCast_ediv]
  simp only [Op.shift, if_neg h0, IntKind.bits, Int.toNat_natCast, e, e2, Sem.run_pure]
theorem bits_andN {x y : Nat} (hx : x < 18446744073709551616) (hy : y < 18446744073709551616) : bits .and .u64 (x : Int) (y : Int) = ((x &&& y : Nat) : Int) := bits_and_u64_nat x y hx hy
theorem and_pow {x b : Nat} (h : x.testBit b = true) : x &&& 2 ^ b ≠ 0 := fun e => by
  have := congrArg (fun z => Nat.testBit z b) e
  simp only [Nat.testBit_and, h, Nat.testBit_two_pow_self, Nat.zero_testBit, Bool.and_self] at this
  cases this
theorem shr_one {x b : Nat} (h : x.testBit b = true) : (x >>> b) &&& 1 = 1 := by
  have h2 : (x >>> b).testBit 0 = true := by rw [Nat.testBit_shiftRight, Nat.add_zero]; exact h
  rw [Nat.testBit_zero, decide_eq_true_eq] at h2
  rw [Nat.and_one_is_mod]
  exact h2
theorem shr_lt {x b : Nat} (h : x < 18446744073709551616) : x >>> b < 18446744073709551616 := by
  rw [Nat.shiftRight_eq_div_pow]
  exact Nat.lt_of_le_of_lt (Nat.div_le_self _ _) h
def lkV (t n : Int) (vp vE vF vW vR vM vw : Value) (a : Nat) : Array Value := #[.int .i64 t, .int .i64 n, vp, vE, vF, vW, vR, vM, vw, .int .i64 (a : Int), .bool true]
def lkL (gl : Nat) (t : Int) (n : Nat) (vp : Value) (x : Rows5) (vw : Value) (E R M : List Bool) (F W : List Nat) (word : List Int) (a : Nat) : List Own :=
  [blkO gl (lkV t (n : Int) vp (vRow n x.gE x.cE) (vRow n x.gF x.cF) (vRow n x.gW x.cW) (vRow n x.gR x.cR) (vRow n x.gM x.cM) vw a) 73, rowBn n x.gE x.cE E, rowNn n x.gF x.cF F, rowNn n x.gW x.cW W, rowBn n x.gR x.cR R, rowBn n x.gM x.cM M, rowO 3 1 vw word.length (word.map (.int .i64))]
theorem pick_mem {L : List Own} {R : List Nat} {o : Own} (h : o ∈ R.filterMap fun i => L[i]?) : o ∈ L := by
  obtain ⟨i, _, hi⟩ := List.mem_filterMap.1 h
  exact List.mem_of_getElem? hi
theorem at_rowB {B : Base} {L : List Own} {i n g c k : Nat} {l : List Bool} (hi : L[i]? = some (rowBn n g c l)) (hk : k < l.length) : At B L ⟨g, 0 + k, none⟩ (.bool (l.getD k false)) := at_row hi (by rw [Nat.zero_add]; exact bool_at hk)
theorem at_rowN {B : Base} {L : List Own} {i n g c k : Nat} {l : List Nat} (hi : L[i]? = some (rowNn n g c l)) (hk : k < l.length) : At B L ⟨g, 0 + k, none⟩ (bitV (l.getD k 0)) := at_row hi (by rw [Nat.zero_add]; exact bit_at hk)
attribute [local irreducible] Op.shift Go.bits in
set_option maxRecDepth 100000 in
set_option maxHeartbeats 16000000 in
theorem look_calls (w0 : World) (gl : Nat) (t : Int) (n : Nat) (vp : Value) (prods : List gramL.Prod) (hG : SlF prodS (fun k => k < w0.heap.size) w0 vp prods) (hheads : ∀ p ∈ prods, 0 ≤ p.1 ∧ p.1 < (n : Int)) (x5 : Rows5) (bw : Option Addr) (cw : Nat) (E R M : List Bool) (F W : List Nat) (word : List Int) (hE : E.length = n) (hR : R.length = n) (hM : M.length = n) (hF : okW n F) (hW : okW n W) (hwd : ∀ y ∈ word, 0 ≤ y ∧ y < 63) (hbw : 0 < word.length → ∃ gw, bw = some ⟨gw, 0, none⟩) (hwl : word.length ≤ 100000) : ∀ (N : Nat) (tr : Tree), size tr ≤ N → ∀ (vt : Value) (xs : Sym) (u a : Nat) (w : World) (B : Base), TreeR (fun k => k < w0.heap.size) w0 vt tr → Right prods tr xs u → 0 ≤ tr.prod → LookT prods E F W R M word tr a → a + leaves tr ≤ word.length → Old w0 B → Mem B (lkL gl t n vp x5 (.slice bw word.length cw) E R M F W word a) w →
    Calls Try.prog 40 #[.pointer (some ⟨gl, 0, none⟩), vt] w (MeetsB ⟨fun (_ : Unit) => True, fun _ => .tuple #[], fun _ => lkL gl t n vp x5 (.slice bw word.length cw) E R M F W word (a + leaves tr)⟩ B)
  | 0, tr, h, _, _, _, _, _, _, _, _, _, _, _, _, _ => by have := size_pos tr; omega
  | N + 1, .mk p k kids, hN, vt, xs, u, a, w, B, hv, hRt, hp0, hlk, hal, ho, hm => by
    have IH := look_calls w0 gl t n vp prods hG hheads x5 bw cw E R M F W word hE hR hM hF hW hwd hbw hwl N
    obtain ⟨vk, rfl, hp64, hk64, hks⟩ := hv
    dsimp only [Tree.prod, Tree.tok, Tree.kids] at hp64 hk64 hks hp0 ⊢
    obtain ⟨bk, ck, rfl, hck, hmk, hrk⟩ := hks
    unfold maxLen at hmk
    rw [size] at hN
    obtain ⟨r1, r3, r4, r5, r6⟩ := right_x hRt hp0
    clear hRt
    rw [LookT] at hlk
    rw [leaves, if_neg (by omega)] at hal ⊢
    obtain ⟨pn, rfl⟩ : ∃ pn : Nat, p = pn := ⟨p.toNat, by omega⟩
    have c6 : pn < prods.length := by omega
    obtain ⟨bp, cp, rfl, hcp, hmp, hrp⟩ := hG
    unfold maxLen at hmp
    obtain ⟨b, off, rfl, _, hr⟩ := hrp (by omega)
    obtain ⟨bb, cb, q1, q2, q3⟩ := prod_at hr c6
    have hhd := hheads prods[pn] (List.getElem_mem c6)
    rw [prodAt_eq c6] at r4 r6 hlk
    have hat : ∀ (L : List Own), At B L ⟨b, off + pn * 2 + 0, none⟩ (.int .i64 prods[pn].1) := fun L => at_old0 ho (q1 0 _ rfl)
    clear hr hrp q1 q3 q2
    generalize prods[pn] = pd at *
    obtain ⟨hd, body⟩ := pd
    dsimp only at *
    obtain ⟨hn, rfl⟩ : ∃ hn : Nat, hd = hn := ⟨hd.toNat, by omega⟩
    rw [Int.toNat_natCast] at hlk
    have hhn : hn < n := by omega
    have hkl := rights_len r6
    have hall := rights_at r6
    obtain ⟨l1, l2, l3, l4, l5⟩ := hlk
    unfold lkL at hm ⊢
    refine enterB hm (args := [.pointer (some ⟨gl, 0, none⟩), treeV (pn : Int) k (.slice bk kids.length ck)]) (n := 155) Try.func40 rfl rfl rfl ?_
    clear hm
    refine T_seq (T_region (TL_box rfl rfl rfl fun g3 => ?_))
    conv => arg 8; simp only [zA, zB, zC, zD, zE, zF, zG, zH, zI, rowS, ret, id_eq]
    repeat (first
      | refine qv rfl (qp rfl) rfl rfl ?_ | refine TL_nil ?_ | refine T_seq ?_ | refine T_region ?_ | refine qcT rfl ?_ | refine qcF rfl ?_ | refine T_skip ?_
      | refine T_exit ?_ | refine T_block ?_ | refine E_then ?_ | refine E_thenX ?_ | refine E_thenR ?_ | refine E_blockN ?_ | refine E_blockR ?_
      | refine E_blockX ?_ | refine E_blockO rfl ?_ | refine qs rfl rfl rfl rfl rfl rfl ?_
      | ((try refine qg rfl rfl rfl ?_); first | refine qv rfl (qp rfl) rfl rfl ?_ | refine qv rfl (rr_load1 TyC.ty rfl (at_blk (i := 0) rfl rfl)) rfl rfl ?_ | refine qv rfl (rr_load1 TyC.ty rfl (at_blk (i := 7) rfl rfl)) rfl rfl ?_ | refine qv rfl (qlen Und.eq rfl) rfl rfl ?_ | refine qv rfl (qfld FldC.fld rfl rfl) rfl rfl ?_ | refine qv rfl (rr_nilc rfl) rfl rfl ?_ | refine qv rfl (rr_lss rfl rfl (qT (by omega))) rfl rfl ?_ | refine qv rfl (rr_lss rfl rfl (qF (by omega))) rfl rfl ?_ | refine qv rfl (rr_eql rfl rfl (qT (by omega))) rfl rfl ?_ | refine qv rfl (rr_eql rfl rfl (qF (by omega))) rfl rfl ?_ | refine qv rfl (rr_add64 rfl rfl (by omega) (by omega) rfl) rfl rfl ?_ | refine qv rfl (rr_neq rfl rfl (qT (by omega))) rfl rfl ?_ | refine qv rfl (rr_neq rfl rfl (qF (by omega))) rfl rfl ?_))
    refine T_loop (ι := Nat × Nat) (fun (i, a2) => i ≤ kids.length ∧ a2 + leavess (kids.drop i) = a + leavess kids ∧ LookK prods E F W R M word (kids.drop i) a2) (fun (i, _) => [(0, .pointer (some ⟨gl, 0, none⟩)), (3, .pointer (some ⟨g3, 0, none⟩)), (4, .int .i64 (a : Int)), (14, .slice bk kids.length ck), (15, .int .i64 kids.length), (16, .int .i64 (i : Int))])
      (fun (_, a2) => [blkO gl (lkV t (n : Int) (.slice (some ⟨b, off, none⟩) prods.length cp) (vRow n x5.gE x5.cE) (vRow n x5.gF x5.cF) (vRow n x5.gW x5.cW) (vRow n x5.gR x5.cR) (vRow n x5.gM x5.cM) (.slice bw word.length cw) a2) 73, rowBn n x5.gE x5.cE E, rowNn n x5.gF x5.cF F, rowNn n x5.gW x5.cW W, rowBn n x5.gR x5.cR R, rowBn n x5.gM x5.cM M, rowO 3 1 (.slice bw word.length cw) word.length (word.map (.int .i64)), blkO g3 (treeV (pn : Int) k (.slice bk kids.length ck)).cells 46]) (fun (i, _) => kids.length - i) (0, a) ⟨Nat.zero_le _, by rw [List.drop_zero], l1⟩ (by repeat' (first | exact True.intro | refine And.intro rfl ?_)) rfl ?_
    rintro ⟨i, a2⟩ ⟨i1, i2, i3⟩
    dsimp only at i1 i2 i3 ⊢
    by_cases c7 : i < kids.length
    · obtain ⟨bk2, offk, rfl, _, hrkk⟩ := hrk (by omega)
      obtain ⟨kb, kc, r1, r2⟩ := kid_at hrkk c7
      have c8 : i < body.length := by omega
      obtain ⟨u2, hRk⟩ := hall i c7 c8
      have hatk : ∀ (L : List Own) (j : Nat) (v : Value), ([.int .i64 kids[i].prod, .int .i64 kids[i].tok, .slice kb kids[i].kids.length kc] : List Value)[j]? = some v → At B L ⟨bk2, offk + i * 3 + j, none⟩ v := fun L j v hj => at_old0 ho (r1 j v hj)
      have hszk : size kids[i] ≤ N := by have := size_mem kids i c7; omega
      have IHk := IH kids[i] hszk
      rw [List.drop_eq_getElem_cons c7] at i2 i3
      clear hrk hrkk r1 IH hall
      generalize kids[i] = kt at *
      generalize body[i] = y at *
      have IHk := IHk (treeV kt.prod kt.tok (.slice kb kt.kids.length kc)) y u2 a2
      obtain ⟨kp, kk, kk2⟩ := kt
      dsimp only [Tree.prod, Tree.tok, Tree.kids] at *
      rw [leavess] at i2
      rw [LookK] at i3
      obtain ⟨i3, i4⟩ := i3
      have hkind := right_kind hRk
      by_cases c9 : kp < 0
      · rw [leaves, if_pos c9] at i2 i4
        repeat (first
          | refine qv rfl (qp rfl) rfl rfl ?_ | refine TL_nil ?_ | refine T_seq ?_ | refine T_region ?_ | refine qcT rfl ?_ | refine qcF rfl ?_ | refine T_skip ?_
          | refine T_exit ?_ | refine T_block ?_ | refine E_then ?_ | refine E_thenX ?_ | refine E_thenR ?_ | refine E_blockN ?_ | refine E_blockR ?_
          | refine E_blockX ?_ | refine E_blockO rfl ?_ | refine qs rfl rfl rfl rfl rfl rfl ?_
          | ((try refine qg rfl rfl rfl ?_); first | refine qv rfl (qp rfl) rfl rfl ?_ | refine qv rfl (rr_idxc Und.eq TyC.ty rfl rfl c7) rfl rfl ?_ | refine qv rfl (rr_loadN TyC.ty rfl rfl (hatk _)) rfl rfl ?_ | refine qv rfl (qlen Und.eq rfl) rfl rfl ?_ | refine qv rfl (qfld FldC.fld rfl rfl) rfl rfl ?_ | refine qv rfl (rr_nilc rfl) rfl rfl ?_ | refine qv rfl (rr_lss rfl rfl (qT (by omega))) rfl rfl ?_ | refine qv rfl (rr_lss rfl rfl (qF (by omega))) rfl rfl ?_ | refine qv rfl (rr_eql rfl rfl (qT (by omega))) rfl rfl ?_ | refine qv rfl (rr_eql rfl rfl (qF (by omega))) rfl rfl ?_ | refine qv rfl (rr_add64 rfl rfl (by omega) (by omega) rfl) rfl rfl ?_ | refine qv rfl (rr_neq rfl rfl (qT (by omega))) rfl rfl ?_ | refine qv rfl (rr_neq rfl rfl (qF (by omega))) rfl rfl ?_))
        refine TL_new rfl fun g6 => ?_
        repeat (first
          | refine qv rfl (qp rfl) rfl rfl ?_ | refine TL_nil ?_ | refine T_seq ?_ | refine T_region ?_ | refine qcT rfl ?_ | refine qcF rfl ?_ | refine T_skip ?_
          | refine T_exit ?_ | refine T_block ?_ | refine E_then ?_ | refine E_thenX ?_ | refine E_thenR ?_ | refine E_blockN ?_ | refine E_blockR ?_
          | refine E_blockX ?_ | refine E_blockO rfl ?_ | refine qs rfl rfl rfl rfl rfl rfl ?_
          | ((try refine qg rfl rfl rfl ?_); first | refine qv rfl (qp rfl) rfl rfl ?_ | refine qv rfl (qlen Und.eq rfl) rfl rfl ?_ | refine qv rfl (qfld FldC.fld rfl rfl) rfl rfl ?_ | refine qv rfl (rr_nilc rfl) rfl rfl ?_ | refine qv rfl (rr_lss rfl rfl (qT (by omega))) rfl rfl ?_ | refine qv rfl (rr_lss rfl rfl (qF (by omega))) rfl rfl ?_ | refine qv rfl (rr_eql rfl rfl (qT (by omega))) rfl rfl ?_ | refine qv rfl (rr_eql rfl rfl (qF (by omega))) rfl rfl ?_ | refine qv rfl (rr_add64 rfl rfl (by omega) (by omega) rfl) rfl rfl ?_ | refine qv rfl (rr_neq rfl rfl (qT (by omega))) rfl rfl ?_ | refine qv rfl (rr_neq rfl rfl (qF (by omega))) rfl rfl ?_))
        refine TL_storeB (i := 8) rfl rfl rfl rfl rfl rfl ?_
        conv => arg 8; simp only [zA, zB, zC, zD, zE, zF, zG, zH, zI, rowS, ret, id_eq]
        repeat (first
          | refine qv rfl (qp rfl) rfl rfl ?_ | refine TL_nil ?_ | refine T_seq ?_ | refine T_region ?_ | refine qcT rfl ?_ | refine qcF rfl ?_ | refine T_skip ?_
          | refine T_exit ?_ | refine T_block ?_ | refine E_then ?_ | refine E_thenX ?_ | refine E_thenR ?_ | refine E_blockN ?_ | refine E_blockR ?_
          | refine E_blockX ?_ | refine E_blockO rfl ?_ | refine qs rfl rfl rfl rfl rfl rfl ?_
          | ((try refine qg rfl rfl rfl ?_); first | refine qv rfl (qp rfl) rfl rfl ?_ | refine qv rfl (rr_load1 TyC.ty rfl (at_blk (i := 0) rfl rfl)) rfl rfl ?_ | refine qv rfl (rr_load1 TyC.ty rfl (at_blk (i := 8) rfl rfl)) rfl rfl ?_ | refine qv rfl (rr_add64 (r := ((a2 + 1 : Nat) : Int)) rfl rfl (by omega) (by omega) (by omega)) rfl rfl ?_ | refine qv rfl (qlen Und.eq rfl) rfl rfl ?_ | refine qv rfl (qfld FldC.fld rfl rfl) rfl rfl ?_ | refine qv rfl (rr_nilc rfl) rfl rfl ?_ | refine qv rfl (rr_lss rfl rfl (qT (by omega))) rfl rfl ?_ | refine qv rfl (rr_lss rfl rfl (qF (by omega))) rfl rfl ?_ | refine qv rfl (rr_eql rfl rfl (qT (by omega))) rfl rfl ?_ | refine qv rfl (rr_eql rfl rfl (qF (by omega))) rfl rfl ?_ | refine qv rfl (rr_add64 rfl rfl (by omega) (by omega) rfl) rfl rfl ?_ | refine qv rfl (rr_neq rfl rfl (qT (by omega))) rfl rfl ?_ | refine qv rfl (rr_neq rfl rfl (qF (by omega))) rfl rfl ?_))
        refine TL_store1 (i := 0) rfl rfl rfl rfl rfl rfl ?_
        rw [show (lkV t (n : Int) (.slice (some ⟨b, off, none⟩) prods.length cp) (vRow n x5.gE x5.cE) (vRow n x5.gF x5.cF) (vRow n x5.gW x5.cW) (vRow n x5.gR x5.cR) (vRow n x5.gM x5.cM) (.slice bw word.length cw) a2).setIfInBounds (0 + 9) (.int .i64 ((a2 + 1 : Nat) : Int)) = lkV t (n : Int) (.slice (some ⟨b, off, none⟩) prods.length cp) (vRow n x5.gE x5.cE) (vRow n x5.gF x5.cF) (vRow n x5.gW x5.cW) (vRow n x5.gR x5.cR) (vRow n x5.gM x5.cM) (.slice bw word.length cw) (a2 + 1) from rfl]
        conv => arg 8; simp only [zA, zB, zC, zD, zE, zF, zG, zH, zI, rowS, ret, id_eq]
        repeat (first
          | refine qv rfl (qp rfl) rfl rfl ?_ | refine TL_nil ?_ | refine T_seq ?_ | refine T_region ?_ | refine qcT rfl ?_ | refine qcF rfl ?_ | refine T_skip ?_
          | refine T_exit ?_ | refine T_block ?_ | refine E_then ?_ | refine E_thenX ?_ | refine E_thenR ?_ | refine E_blockN ?_ | refine E_blockR ?_
          | refine E_blockX ?_ | refine E_blockO rfl ?_ | refine qs rfl rfl rfl rfl rfl rfl ?_
          | ((try refine qg rfl rfl rfl ?_); first | refine qv rfl (qp rfl) rfl rfl ?_ | refine qv rfl (qlen Und.eq rfl) rfl rfl ?_ | refine qv rfl (qfld FldC.fld rfl rfl) rfl rfl ?_ | refine qv rfl (rr_nilc rfl) rfl rfl ?_ | refine qv rfl (rr_lss rfl rfl (qT (by omega))) rfl rfl ?_ | refine qv rfl (rr_lss rfl rfl (qF (by omega))) rfl rfl ?_ | refine qv rfl (rr_eql rfl rfl (qT (by omega))) rfl rfl ?_ | refine qv rfl (rr_eql rfl rfl (qF (by omega))) rfl rfl ?_ | refine qv rfl (rr_add64 rfl rfl (by omega) (by omega) rfl) rfl rfl ?_ | refine qv rfl (rr_neq rfl rfl (qT (by omega))) rfl rfl ?_ | refine qv rfl (rr_neq rfl rfl (qF (by omega))) rfl rfl ?_))
        refine E_pick [0, 1, 2, 3, 4, 5, 6, 7] (by decide) rfl ?_
        exact E_round (i + 1, a2 + 1) ⟨by omega, (by show a2 + 1 + leavess (kids.drop (i + 1)) = a + leavess kids; omega), i4⟩ (by show kids.length - (i + 1) < kids.length - i; omega) (by repeat' (first | exact True.intro | refine And.intro rfl ?_)) rfl
      · have hk0 : 0 ≤ kp := by omega
        have hlk2 := i3.resolve_left c9
        generalize leaves (.mk kp kk kk2) = lv at *
        repeat (first
          | refine qv rfl (qp rfl) rfl rfl ?_ | refine TL_nil ?_ | refine T_seq ?_ | refine T_region ?_ | refine qcT rfl ?_ | refine qcF rfl ?_ | refine T_skip ?_
          | refine T_exit ?_ | refine T_block ?_ | refine E_then ?_ | refine E_thenX ?_ | refine E_thenR ?_ | refine E_blockN ?_ | refine E_blockR ?_
          | refine E_blockX ?_ | refine E_blockO rfl ?_ | refine qs rfl rfl rfl rfl rfl rfl ?_
          | ((try refine qg rfl rfl rfl ?_); first | refine qv rfl (qp rfl) rfl rfl ?_ | refine qv rfl (rr_idxc Und.eq TyC.ty rfl rfl c7) rfl rfl ?_ | refine qv rfl (rr_loadN TyC.ty rfl rfl (hatk _)) rfl rfl ?_ | refine qv rfl (qlen Und.eq rfl) rfl rfl ?_ | refine qv rfl (qfld FldC.fld rfl rfl) rfl rfl ?_ | refine qv rfl (rr_nilc rfl) rfl rfl ?_ | refine qv rfl (rr_lss rfl rfl (qT (by omega))) rfl rfl ?_ | refine qv rfl (rr_lss rfl rfl (qF (by omega))) rfl rfl ?_ | refine qv rfl (rr_eql rfl rfl (qT (by omega))) rfl rfl ?_ | refine qv rfl (rr_eql rfl rfl (qF (by omega))) rfl rfl ?_ | refine qv rfl (rr_add64 rfl rfl (by omega) (by omega) rfl) rfl rfl ?_ | refine qv rfl (rr_neq rfl rfl (qT (by omega))) rfl rfl ?_ | refine qv rfl (rr_neq rfl rfl (qF (by omega))) rfl rfl ?_))
        refine TL_new rfl fun g6 => ?_
        repeat (first
          | refine qv rfl (qp rfl) rfl rfl ?_ | refine TL_nil ?_ | refine T_seq ?_ | refine T_region ?_ | refine qcT rfl ?_ | refine qcF rfl ?_ | refine T_skip ?_
          | refine T_exit ?_ | refine T_block ?_ | refine E_then ?_ | refine E_thenX ?_ | refine E_thenR ?_ | refine E_blockN ?_ | refine E_blockR ?_
          | refine E_blockX ?_ | refine E_blockO rfl ?_ | refine qs rfl rfl rfl rfl rfl rfl ?_
          | ((try refine qg rfl rfl rfl ?_); first | refine qv rfl (qp rfl) rfl rfl ?_ | refine qv rfl (qlen Und.eq rfl) rfl rfl ?_ | refine qv rfl (qfld FldC.fld rfl rfl) rfl rfl ?_ | refine qv rfl (rr_nilc rfl) rfl rfl ?_ | refine qv rfl (rr_lss rfl rfl (qT (by omega))) rfl rfl ?_ | refine qv rfl (rr_lss rfl rfl (qF (by omega))) rfl rfl ?_ | refine qv rfl (rr_eql rfl rfl (qT (by omega))) rfl rfl ?_ | refine qv rfl (rr_eql rfl rfl (qF (by omega))) rfl rfl ?_ | refine qv rfl (rr_add64 rfl rfl (by omega) (by omega) rfl) rfl rfl ?_ | refine qv rfl (rr_neq rfl rfl (qT (by omega))) rfl rfl ?_ | refine qv rfl (rr_neq rfl rfl (qF (by omega))) rfl rfl ?_))
        refine TL_storeB (i := 8) rfl rfl rfl rfl rfl rfl ?_
        conv => arg 8; simp only [zA, zB, zC, zD, zE, zF, zG, zH, zI, rowS, ret, id_eq]
        repeat (first
          | refine qv rfl (qp rfl) rfl rfl ?_ | refine TL_nil ?_ | refine T_seq ?_ | refine T_region ?_ | refine qcT rfl ?_ | refine qcF rfl ?_ | refine T_skip ?_
          | refine T_exit ?_ | refine T_block ?_ | refine E_then ?_ | refine E_thenX ?_ | refine E_thenR ?_ | refine E_blockN ?_ | refine E_blockR ?_
          | refine E_blockX ?_ | refine E_blockO rfl ?_ | refine qs rfl rfl rfl rfl rfl rfl ?_
          | ((try refine qg rfl rfl rfl ?_); first | refine qv rfl (qp rfl) rfl rfl ?_ | refine qv rfl (rr_load1 TyC.ty rfl (at_blk (i := 0) rfl rfl)) rfl rfl ?_ | refine qv rfl (rr_load1 TyC.ty rfl (at_blk (i := 8) rfl rfl)) rfl rfl ?_ | refine qv rfl (rr_loadB (i := 8) TyC.ty rfl rfl rfl) rfl rfl ?_ | refine qv rfl (qlen Und.eq rfl) rfl rfl ?_ | refine qv rfl (qfld FldC.fld rfl rfl) rfl rfl ?_ | refine qv rfl (rr_nilc rfl) rfl rfl ?_ | refine qv rfl (rr_lss rfl rfl (qT (by omega))) rfl rfl ?_ | refine qv rfl (rr_lss rfl rfl (qF (by omega))) rfl rfl ?_ | refine qv rfl (rr_eql rfl rfl (qT (by omega))) rfl rfl ?_ | refine qv rfl (rr_eql rfl rfl (qF (by omega))) rfl rfl ?_ | refine qv rfl (rr_add64 rfl rfl (by omega) (by omega) rfl) rfl rfl ?_ | refine qv rfl (rr_neq rfl rfl (qT (by omega))) rfl rfl ?_ | refine qv rfl (rr_neq rfl rfl (qF (by omega))) rfl rfl ?_))
        refine TL_callB [0, 1, 2, 3, 4, 5, 6] [7] (by decide) rfl rfl (he2 EntersC.en rfl rfl rfl) (fun w hm hb => IHk w _ r2 hRk hk0 hlk2 (by omega) (ho.on hm fun o h => pick_mem h) hb) rfl rfl rfl ?_
        intro _ _
        conv => arg 8; simp only [zA, zB, zC, zD, zE, zF, zG, zH, zI, rowS, ret, id_eq, lkL]
        repeat (first
          | refine qv rfl (qp rfl) rfl rfl ?_ | refine TL_nil ?_ | refine T_seq ?_ | refine T_region ?_ | refine qcT rfl ?_ | refine qcF rfl ?_ | refine T_skip ?_
          | refine T_exit ?_ | refine T_block ?_ | refine E_then ?_ | refine E_thenX ?_ | refine E_thenR ?_ | refine E_blockN ?_ | refine E_blockR ?_
          | refine E_blockX ?_ | refine E_blockO rfl ?_ | refine qs rfl rfl rfl rfl rfl rfl ?_
          | ((try refine qg rfl rfl rfl ?_); first | refine qv rfl (qp rfl) rfl rfl ?_ | refine qv rfl (qlen Und.eq rfl) rfl rfl ?_ | refine qv rfl (qfld FldC.fld rfl rfl) rfl rfl ?_ | refine qv rfl (rr_nilc rfl) rfl rfl ?_ | refine qv rfl (rr_lss rfl rfl (qT (by omega))) rfl rfl ?_ | refine qv rfl (rr_lss rfl rfl (qF (by omega))) rfl rfl ?_ | refine qv rfl (rr_eql rfl rfl (qT (by omega))) rfl rfl ?_ | refine qv rfl (rr_eql rfl rfl (qF (by omega))) rfl rfl ?_ | refine qv rfl (rr_add64 rfl rfl (by omega) (by omega) rfl) rfl rfl ?_ | refine qv rfl (rr_neq rfl rfl (qT (by omega))) rfl rfl ?_ | refine qv rfl (rr_neq rfl rfl (qF (by omega))) rfl rfl ?_))
        refine E_pick [1, 2, 3, 4, 5, 6, 7, 0] (by decide) rfl ?_
        exact E_round (i + 1, a2 + lv) ⟨by omega, (by show a2 + lv + leavess (kids.drop (i + 1)) = a + leavess kids; omega), i4⟩ (by show kids.length - (i + 1) < kids.length - i; omega) (by repeat' (first | exact True.intro | refine And.intro rfl ?_)) rfl
    · rw [List.drop_of_length_le (by omega), leavess] at i2
      obtain rfl : a2 = a + leavess kids := by omega
      clear i2 i3 IH hall hrk
      have hlv : 0 < word.length → ∃ gw, bw = some ⟨gw, 0, none⟩ := hbw
      generalize he : a + leavess kids = e at *
      have hatM := fun (L : List Own) (h : L[5]? = some (rowBn n x5.gM x5.cM M)) => (show At B L ⟨x5.gM, 0 + hn, none⟩ (.bool true) from l2 ▸ at_rowB h (by omega))
      have hatR := fun (L : List Own) (h : L[4]? = some (rowBn n x5.gR x5.cR R)) => (show At B L ⟨x5.gR, 0 + hn, none⟩ (.bool true) from l3 ▸ at_rowB h (by omega))
      have hatW := fun (L : List Own) (h : L[3]? = some (rowNn n x5.gW x5.cW W)) => at_rowN (B := B) h (k := hn) (by rw [hW.1]; exact hhn)
      have hWx := getD_lt hW hn
      have hbit : bitAt word e < 64 := by
        unfold bitAt
        split
        · rename_i h
          have := hwd (word.getD e 0) (by rw [List.getD_eq_getElem?_getD, List.getElem?_eq_getElem h]; exact List.getElem_mem h)
          omega
        · omega
      have hand := bits_andN hWx (pow_lt64 hbit)
      have hz := and_pow l4
      clear l4
      generalize W.getD hn 0 = wv at *
      generalize hzz : wv &&& 2 ^ bitAt word e = z at *
      repeat (first
        | refine qv rfl (qp rfl) rfl rfl ?_ | refine TL_nil ?_ | refine T_seq ?_ | refine T_region ?_ | refine qcT rfl ?_ | refine qcF rfl ?_ | refine T_skip ?_
        | refine T_exit ?_ | refine T_block ?_ | refine E_then ?_ | refine E_thenX ?_ | refine E_thenR ?_ | refine E_blockN ?_ | refine E_blockR ?_
        | refine E_blockX ?_ | refine E_blockO rfl ?_ | refine qs rfl rfl rfl rfl rfl rfl ?_
        | ((try refine qg rfl rfl rfl ?_); first | refine qv rfl (qp rfl) rfl rfl ?_ | refine qv rfl (qlen Und.eq rfl) rfl rfl ?_ | refine qv rfl (qfld FldC.fld rfl rfl) rfl rfl ?_ | refine qv rfl (rr_nilc rfl) rfl rfl ?_ | refine qv rfl (rr_lss rfl rfl (qT (by omega))) rfl rfl ?_ | refine qv rfl (rr_lss rfl rfl (qF (by omega))) rfl rfl ?_ | refine qv rfl (rr_eql rfl rfl (qT (by omega))) rfl rfl ?_ | refine qv rfl (rr_eql rfl rfl (qF (by omega))) rfl rfl ?_ | refine qv rfl (rr_add64 rfl rfl (by omega) (by omega) rfl) rfl rfl ?_ | refine qv rfl (rr_neq rfl rfl (qT (by omega))) rfl rfl ?_ | refine qv rfl (rr_neq rfl rfl (qF (by omega))) rfl rfl ?_))
      refine T_ord ([blkO gl (lkV t (n : Int) (.slice (some ⟨b, off, none⟩) prods.length cp) (vRow n x5.gE x5.cE) (vRow n x5.gF x5.cF) (vRow n x5.gW x5.cW) (vRow n x5.gR x5.cR) (vRow n x5.gM x5.cM) (.slice bw word.length cw) e) 73, rowBn n x5.gE x5.cE E, rowNn n x5.gF x5.cF F, rowNn n x5.gW x5.cW W, rowBn n x5.gR x5.cR R, rowBn n x5.gM x5.cM M, rowO 3 1 (.slice bw word.length cw) word.length (word.map (.int .i64)), blkO g3 (treeV (pn : Int) k (.slice bk kids.length ck)).cells 46]) (.calm 0 (.calm 1 (.calm 2 (.calm 3 (.calm 4 (.calm 5 (.calm 6 (.calm 7 (.calm 8 (.calm 9 (.calm 10 (.done)))))))))))) (fun _ h => h) (by kernel_rfl) (by kernel_rfl) (by intro c a d v w h; cases d <;> exact h) ?_
      repeat (first
        | ((first | refine TW_plain rfl rfl ?_ | refine TW_gmet rfl rfl rfl rfl ?_); first | refine TN_val (qp rfl) rfl rfl ?_ | refine TN_val (rr_load1 TyC.ty rfl (at_blk (i := 0) rfl rfl)) rfl rfl ?_ | refine TN_val (rr_load1 TyC.ty rfl (at_blk (i := 7) rfl rfl)) rfl rfl ?_ | refine TN_val (rr_idxc Und.eq TyC.ty rfl rfl c6) rfl rfl ?_ | refine TN_val (rr_load1 TyC.ty rfl (hat _)) rfl rfl ?_ | refine TN_val (qlen Und.eq rfl) rfl rfl ?_ | refine TN_val (qfld FldC.fld rfl rfl) rfl rfl ?_ | refine TN_val (rr_nilc rfl) rfl rfl ?_ | refine TN_val (rr_lss rfl rfl (qT (by omega))) rfl rfl ?_ | refine TN_val (rr_lss rfl rfl (qF (by omega))) rfl rfl ?_ | refine TN_val (rr_eql rfl rfl (qT (by omega))) rfl rfl ?_ | refine TN_val (rr_eql rfl rfl (qF (by omega))) rfl rfl ?_ | refine TN_val (rr_add64 rfl rfl (by omega) (by omega) rfl) rfl rfl ?_ | refine TN_val (rr_neq rfl rfl (qT (by omega))) rfl rfl ?_ | refine TN_val (rr_neq rfl rfl (qF (by omega))) rfl rfl ?_)
        | refine TW_skip rfl rfl rfl rfl rfl rfl rfl ?_ | refine TW_done ?_)
      repeat (first
        | refine qv rfl (qp rfl) rfl rfl ?_ | refine TL_nil ?_ | refine T_seq ?_ | refine T_region ?_ | refine qcT rfl ?_ | refine qcF rfl ?_ | refine T_skip ?_
        | refine T_exit ?_ | refine T_block ?_ | refine E_then ?_ | refine E_thenX ?_ | refine E_thenR ?_ | refine E_blockN ?_ | refine E_blockR ?_
        | refine E_blockX ?_ | refine E_blockO rfl ?_ | refine qs rfl rfl rfl rfl rfl rfl ?_
        | ((try refine qg rfl rfl rfl ?_); first | refine qv rfl (qp rfl) rfl rfl ?_ | refine qv rfl (qlen Und.eq rfl) rfl rfl ?_ | refine qv rfl (qfld FldC.fld rfl rfl) rfl rfl ?_ | refine qv rfl (rr_nilc rfl) rfl rfl ?_ | refine qv rfl (rr_lss rfl rfl (qT (by omega))) rfl rfl ?_ | refine qv rfl (rr_lss rfl rfl (qF (by omega))) rfl rfl ?_ | refine qv rfl (rr_eql rfl rfl (qT (by omega))) rfl rfl ?_ | refine qv rfl (rr_eql rfl rfl (qF (by omega))) rfl rfl ?_ | refine qv rfl (rr_add64 rfl rfl (by omega) (by omega) rfl) rfl rfl ?_ | refine qv rfl (rr_neq rfl rfl (qT (by omega))) rfl rfl ?_ | refine qv rfl (rr_neq rfl rfl (qF (by omega))) rfl rfl ?_))
      refine T_ord ([blkO gl (lkV t (n : Int) (.slice (some ⟨b, off, none⟩) prods.length cp) (vRow n x5.gE x5.cE) (vRow n x5.gF x5.cF) (vRow n x5.gW x5.cW) (vRow n x5.gR x5.cR) (vRow n x5.gM x5.cM) (.slice bw word.length cw) e) 73, rowBn n x5.gE x5.cE E, rowNn n x5.gF x5.cF F, rowNn n x5.gW x5.cW W, rowBn n x5.gR x5.cR R, rowBn n x5.gM x5.cM M, rowO 3 1 (.slice bw word.length cw) word.length (word.map (.int .i64)), blkO g3 (treeV (pn : Int) k (.slice bk kids.length ck)).cells 46]) (.calm 0 (.calm 1 (.calm 2 (.calm 3 (.calm 4 (.calm 5 (.calm 6 (.calm 7 (.calm 8 (.calm 9 (.done))))))))))) (fun _ h => h) (by kernel_rfl) (by kernel_rfl) (by intro c a d v w h; cases d <;> exact h) ?_
      repeat (first
        | ((first | refine TW_plain rfl rfl ?_ | refine TW_gmet rfl rfl rfl rfl ?_); first | refine TN_val (qp rfl) rfl rfl ?_ | refine TN_val (rr_load1 TyC.ty rfl (at_blk (i := 0) rfl rfl)) rfl rfl ?_ | refine TN_val (rr_lss rfl rfl rfl) rfl rfl ?_ | refine TN_val (qlen Und.eq rfl) rfl rfl ?_ | refine TN_val (qfld FldC.fld rfl rfl) rfl rfl ?_ | refine TN_val (rr_nilc rfl) rfl rfl ?_ | refine TN_val (rr_lss rfl rfl (qT (by omega))) rfl rfl ?_ | refine TN_val (rr_lss rfl rfl (qF (by omega))) rfl rfl ?_ | refine TN_val (rr_eql rfl rfl (qT (by omega))) rfl rfl ?_ | refine TN_val (rr_eql rfl rfl (qF (by omega))) rfl rfl ?_ | refine TN_val (rr_add64 rfl rfl (by omega) (by omega) rfl) rfl rfl ?_ | refine TN_val (rr_neq rfl rfl (qT (by omega))) rfl rfl ?_ | refine TN_val (rr_neq rfl rfl (qF (by omega))) rfl rfl ?_)
        | refine TW_skip rfl rfl rfl rfl rfl rfl rfl ?_ | refine TW_done ?_)
      refine E_then ?_
      refine T_midq (ι := Unit) (fun _ => True) (fun _ => [(0, .pointer (some ⟨gl, 0, none⟩)), (3, .pointer (some ⟨g3, 0, none⟩)), (4, .int .i64 (a : Int)), (7, .int .i64 (hn : Int)), (8, .int .u64 ((2 ^ bitAt word e : Nat) : Int))]) (fun _ => [blkO gl (lkV t (n : Int) (.slice (some ⟨b, off, none⟩) prods.length cp) (vRow n x5.gE x5.cE) (vRow n x5.gF x5.cF) (vRow n x5.gW x5.cW) (vRow n x5.gR x5.cR) (vRow n x5.gM x5.cM) (.slice bw word.length cw) e) 73, rowBn n x5.gE x5.cE E, rowNn n x5.gF x5.cF F, rowNn n x5.gW x5.cW W, rowBn n x5.gR x5.cR R, rowBn n x5.gM x5.cM M, rowO 3 1 (.slice bw word.length cw) word.length (word.map (.int .i64)), blkO g3 (treeV (pn : Int) k (.slice bk kids.length ck)).cells 46]) ?_ ?_
      · refine T_condD rfl (fun h => ?_) (fun h => ?_)
        · have h : e < word.length := by omega
          obtain ⟨gw, rfl⟩ := hlv (by omega)
          have hwv := hwd (word.getD e 0) (by rw [List.getD_eq_getElem?_getD, List.getElem?_eq_getElem h]; exact List.getElem_mem h)
          have hb : bitAt word e = (word.getD e 0).toNat := by unfold bitAt; rw [if_pos h]
          have hcw : (word.map (Value.int .i64))[0 + e]? = some (.int .i64 (((word.getD e 0).toNat : Nat) : Int)) := by
            rw [Nat.zero_add, List.getElem?_map, List.getElem?_eq_getElem h, Option.map_some, Int.toNat_of_nonneg hwv.1, List.getD_eq_getElem?_getD, List.getElem?_eq_getElem h]; rfl
          rw [hb] at *
          have hsh := fun w => shl1 (P := Try.prog) (word.getD e 0).toNat (by omega) w
          generalize (word.getD e 0).toNat = m at *
          refine T_ord ([blkO gl (lkV t (n : Int) (.slice (some ⟨b, off, none⟩) prods.length cp) (vRow n x5.gE x5.cE) (vRow n x5.gF x5.cF) (vRow n x5.gW x5.cW) (vRow n x5.gR x5.cR) (vRow n x5.gM x5.cM) (.slice (some ⟨gw, 0, none⟩) word.length cw) e) 73, rowBn n x5.gE x5.cE E, rowNn n x5.gF x5.cF F, rowNn n x5.gW x5.cW W, rowBn n x5.gR x5.cR R, rowBn n x5.gM x5.cM M, rowO 3 1 (.slice (some ⟨gw, 0, none⟩) word.length cw) word.length (word.map (.int .i64)), blkO g3 (treeV (pn : Int) k (.slice bk kids.length ck)).cells 46]) (.calm 0 (.calm 1 (.calm 2 (.calm 3 (.calm 4 (.calm 5 (.calm 6 (.calm 7 (.calm 8 (.calm 9 (.calm 10 (.calm 11 (.done))))))))))))) (fun _ h => h) (by kernel_rfl) (by kernel_rfl) (by intro c a d v w h; cases d <;> exact h) ?_
          repeat (first
            | ((first | refine TW_plain rfl rfl ?_ | refine TW_gmet rfl rfl rfl rfl ?_); first | refine TN_val (qp rfl) rfl rfl ?_ | refine TN_val (rr_load1 TyC.ty rfl (at_blk (i := 0) rfl rfl)) rfl rfl ?_ | refine TN_val (rr_idx1 Und.eq TyC.ty rfl rfl h) rfl rfl ?_ | refine TN_val (rr_load1 TyC.ty rfl (at_row (i := 6) rfl hcw)) rfl rfl ?_ | refine TN_val (rr_shl rfl rfl hsh) rfl rfl ?_ | refine TN_val (qlen Und.eq rfl) rfl rfl ?_ | refine TN_val (qfld FldC.fld rfl rfl) rfl rfl ?_ | refine TN_val (rr_nilc rfl) rfl rfl ?_ | refine TN_val (rr_lss rfl rfl (qT (by omega))) rfl rfl ?_ | refine TN_val (rr_lss rfl rfl (qF (by omega))) rfl rfl ?_ | refine TN_val (rr_eql rfl rfl (qT (by omega))) rfl rfl ?_ | refine TN_val (rr_eql rfl rfl (qF (by omega))) rfl rfl ?_ | refine TN_val (rr_add64 rfl rfl (by omega) (by omega) rfl) rfl rfl ?_ | refine TN_val (rr_neq rfl rfl (qT (by omega))) rfl rfl ?_ | refine TN_val (rr_neq rfl rfl (qF (by omega))) rfl rfl ?_)
            | refine TW_skip rfl rfl rfl rfl rfl rfl rfl ?_ | refine TW_done ?_)
          exact E_mid () trivial (by repeat' (first | exact True.intro | refine And.intro rfl ?_)) rfl
        · have hb : bitAt word e = 63 := by unfold bitAt; rw [if_neg (by omega)]
          rw [hb]
          repeat (first
            | refine qv rfl (qp rfl) rfl rfl ?_ | refine TL_nil ?_ | refine T_seq ?_ | refine T_region ?_ | refine qcT rfl ?_ | refine qcF rfl ?_ | refine T_skip ?_
            | refine T_exit ?_ | refine T_block ?_ | refine E_then ?_ | refine E_thenX ?_ | refine E_thenR ?_ | refine E_blockN ?_ | refine E_blockR ?_
            | refine E_blockX ?_ | refine E_blockO rfl ?_ | refine qs rfl rfl rfl rfl rfl rfl ?_
            | ((try refine qg rfl rfl rfl ?_); first | refine qv rfl (qp rfl) rfl rfl ?_ | refine qv rfl (qlen Und.eq rfl) rfl rfl ?_ | refine qv rfl (qfld FldC.fld rfl rfl) rfl rfl ?_ | refine qv rfl (rr_nilc rfl) rfl rfl ?_ | refine qv rfl (rr_lss rfl rfl (qT (by omega))) rfl rfl ?_ | refine qv rfl (rr_lss rfl rfl (qF (by omega))) rfl rfl ?_ | refine qv rfl (rr_eql rfl rfl (qT (by omega))) rfl rfl ?_ | refine qv rfl (rr_eql rfl rfl (qF (by omega))) rfl rfl ?_ | refine qv rfl (rr_add64 rfl rfl (by omega) (by omega) rfl) rfl rfl ?_ | refine qv rfl (rr_neq rfl rfl (qT (by omega))) rfl rfl ?_ | refine qv rfl (rr_neq rfl rfl (qF (by omega))) rfl rfl ?_))
          exact E_mid () trivial (by repeat' (first | exact True.intro | refine And.intro rfl ?_)) rfl
      intro _ _
      clear hlv
      generalize (2 ^ bitAt word e : Nat) = bb at *
      repeat (first
        | refine qv rfl (qp rfl) rfl rfl ?_ | refine TL_nil ?_ | refine T_seq ?_ | refine T_region ?_ | refine qcT rfl ?_ | refine qcF rfl ?_ | refine T_skip ?_
        | refine T_exit ?_ | refine T_block ?_ | refine E_then ?_ | refine E_thenX ?_ | refine E_thenR ?_ | refine E_blockN ?_ | refine E_blockR ?_
        | refine E_blockX ?_ | refine E_blockO rfl ?_ | refine qs rfl rfl rfl rfl rfl rfl ?_
        | ((try refine qg rfl rfl rfl ?_); first | refine qv rfl (qp rfl) rfl rfl ?_ | refine qv rfl (rr_load1 TyC.ty rfl (at_blk (i := 0) rfl rfl)) rfl rfl ?_ | refine qv rfl (rr_idx1 Und.eq TyC.ty rfl rfl hhn) rfl rfl ?_ | refine qv rfl (rr_load1 TyC.ty rfl (hatM _ rfl)) rfl rfl ?_ | refine qv rfl (rr_load1 TyC.ty rfl (hatR _ rfl)) rfl rfl ?_ | refine qv rfl (rr_load1 TyC.ty rfl (hatW _ rfl)) rfl rfl ?_ | refine qv rfl (qlen Und.eq rfl) rfl rfl ?_ | refine qv rfl (qfld FldC.fld rfl rfl) rfl rfl ?_ | refine qv rfl (rr_nilc rfl) rfl rfl ?_ | refine qv rfl (rr_lss rfl rfl (qT (by omega))) rfl rfl ?_ | refine qv rfl (rr_lss rfl rfl (qF (by omega))) rfl rfl ?_ | refine qv rfl (rr_eql rfl rfl (qT (by omega))) rfl rfl ?_ | refine qv rfl (rr_eql rfl rfl (qF (by omega))) rfl rfl ?_ | refine qv rfl (rr_add64 rfl rfl (by omega) (by omega) rfl) rfl rfl ?_ | refine qv rfl (rr_and rfl rfl hand) rfl rfl ?_ | refine qv rfl (rr_neq rfl rfl (qT (by omega))) rfl rfl ?_ | refine qv rfl (rr_neq rfl rfl (qF (by omega))) rfl rfl ?_))
      refine TL_store1 (i := 0) rfl rfl rfl rfl rfl rfl ?_
      rw [show (lkV t (n : Int) (.slice (some ⟨b, off, none⟩) prods.length cp) (vRow n x5.gE x5.cE) (vRow n x5.gF x5.cF) (vRow n x5.gW x5.cW) (vRow n x5.gR x5.cR) (vRow n x5.gM x5.cM) (.slice bw word.length cw) e).setIfInBounds (0 + 10) (.bool true) = lkV t (n : Int) (.slice (some ⟨b, off, none⟩) prods.length cp) (vRow n x5.gE x5.cE) (vRow n x5.gF x5.cF) (vRow n x5.gW x5.cW) (vRow n x5.gR x5.cR) (vRow n x5.gM x5.cM) (.slice bw word.length cw) e from rfl]
      conv => arg 8; simp only [zA, zB, zC, zD, zE, zF, zG, zH, zI, rowS, ret, id_eq]
      clear hand hz hzz hatM hatR hatW hWx
      by_cases c0 : leavess kids = 0
      · obtain rfl : e = a := by omega
        rw [if_pos c0] at l5
        have hatE := fun (L : List Own) (h : L[1]? = some (rowBn n x5.gE x5.cE E)) => (show At B L ⟨x5.gE, 0 + hn, none⟩ (.bool true) from l5 ▸ at_rowB h (by omega))
        repeat (first
          | refine qv rfl (qp rfl) rfl rfl ?_ | refine TL_nil ?_ | refine T_seq ?_ | refine T_region ?_ | refine qcT rfl ?_ | refine qcF rfl ?_ | refine T_skip ?_
          | refine T_exit ?_ | refine T_block ?_ | refine E_then ?_ | refine E_thenX ?_ | refine E_thenR ?_ | refine E_blockN ?_ | refine E_blockR ?_
          | refine E_blockX ?_ | refine E_blockO rfl ?_ | refine qs rfl rfl rfl rfl rfl rfl ?_
          | ((try refine qg rfl rfl rfl ?_); first | refine qv rfl (qp rfl) rfl rfl ?_ | refine qv rfl (rr_load1 TyC.ty rfl (at_blk (i := 0) rfl rfl)) rfl rfl ?_ | refine qv rfl (rr_idx1 Und.eq TyC.ty rfl rfl hhn) rfl rfl ?_ | refine qv rfl (rr_load1 TyC.ty rfl (hatE _ rfl)) rfl rfl ?_ | refine qv rfl (qlen Und.eq rfl) rfl rfl ?_ | refine qv rfl (qfld FldC.fld rfl rfl) rfl rfl ?_ | refine qv rfl (rr_nilc rfl) rfl rfl ?_ | refine qv rfl (rr_lss rfl rfl (qT (by omega))) rfl rfl ?_ | refine qv rfl (rr_lss rfl rfl (qF (by omega))) rfl rfl ?_ | refine qv rfl (rr_eql rfl rfl (qT (by omega))) rfl rfl ?_ | refine qv rfl (rr_eql rfl rfl (qF (by omega))) rfl rfl ?_ | refine qv rfl (rr_add64 rfl rfl (by omega) (by omega) rfl) rfl rfl ?_ | refine qv rfl (rr_neq rfl rfl (qT (by omega))) rfl rfl ?_ | refine qv rfl (rr_neq rfl rfl (qF (by omega))) rfl rfl ?_))
        refine TL_store1 (i := 0) rfl rfl rfl rfl rfl rfl ?_
        rw [show (lkV t (n : Int) (.slice (some ⟨b, off, none⟩) prods.length cp) (vRow n x5.gE x5.cE) (vRow n x5.gF x5.cF) (vRow n x5.gW x5.cW) (vRow n x5.gR x5.cR) (vRow n x5.gM x5.cM) (.slice bw word.length cw) e).setIfInBounds (0 + 10) (.bool true) = lkV t (n : Int) (.slice (some ⟨b, off, none⟩) prods.length cp) (vRow n x5.gE x5.cE) (vRow n x5.gF x5.cF) (vRow n x5.gW x5.cW) (vRow n x5.gR x5.cR) (vRow n x5.gM x5.cM) (.slice bw word.length cw) e from rfl]
        conv => arg 8; simp only [zA, zB, zC, zD, zE, zF, zG, zH, zI, rowS, ret, id_eq]
        repeat (first
          | refine qv rfl (qp rfl) rfl rfl ?_ | refine TL_nil ?_ | refine T_seq ?_ | refine T_region ?_ | refine qcT rfl ?_ | refine qcF rfl ?_ | refine T_skip ?_
          | refine T_exit ?_ | refine T_block ?_ | refine E_then ?_ | refine E_thenX ?_ | refine E_thenR ?_ | refine E_blockN ?_ | refine E_blockR ?_
          | refine E_blockX ?_ | refine E_blockO rfl ?_ | refine qs rfl rfl rfl rfl rfl rfl ?_
          | ((try refine qg rfl rfl rfl ?_); first | refine qv rfl (qp rfl) rfl rfl ?_ | refine qv rfl (qlen Und.eq rfl) rfl rfl ?_ | refine qv rfl (qfld FldC.fld rfl rfl) rfl rfl ?_ | refine qv rfl (rr_nilc rfl) rfl rfl ?_ | refine qv rfl (rr_lss rfl rfl (qT (by omega))) rfl rfl ?_ | refine qv rfl (rr_lss rfl rfl (qF (by omega))) rfl rfl ?_ | refine qv rfl (rr_eql rfl rfl (qT (by omega))) rfl rfl ?_ | refine qv rfl (rr_eql rfl rfl (qF (by omega))) rfl rfl ?_ | refine qv rfl (rr_add64 rfl rfl (by omega) (by omega) rfl) rfl rfl ?_ | refine qv rfl (rr_neq rfl rfl (qT (by omega))) rfl rfl ?_ | refine qv rfl (rr_neq rfl rfl (qF (by omega))) rfl rfl ?_))
        exact E_end0 rfl fun w hm => hm.meetsB (S := ⟨fun (_ : Unit) => True, fun _ => .tuple #[], fun _ => lkL gl t n (.slice (some ⟨b, off, none⟩) prods.length cp) x5 (.slice bw word.length cw) E R M F W word e⟩) () trivial [0, 1, 2, 3, 4, 5, 6] (by decide) rfl
      · rw [if_neg c0] at l5
        have h : a < word.length := by omega
        obtain ⟨gw, rfl⟩ := hbw (by omega)
        have hwv := hwd (word.getD a 0) (by rw [List.getD_eq_getElem?_getD, List.getElem?_eq_getElem h]; exact List.getElem_mem h)
        have hb : bitAt word a = (word.getD a 0).toNat := by unfold bitAt; rw [if_pos h]
        have hcw : (word.map (Value.int .i64))[0 + a]? = some (.int .i64 (((word.getD a 0).toNat : Nat) : Int)) := by
          rw [Nat.zero_add, List.getElem?_map, List.getElem?_eq_getElem h, Option.map_some, Int.toNat_of_nonneg hwv.1, List.getD_eq_getElem?_getD, List.getElem?_eq_getElem h]; rfl
        rw [hb] at l5
        have hsr := fun w => shrN (P := Try.prog) (F.getD hn 0) (word.getD a 0).toNat (by omega) w
        have hone := bits_andN (shr_lt (b := (word.getD a 0).toNat) (getD_lt hF hn)) (show 1 < 18446744073709551616 by decide)
        rw [shr_one l5] at hone
        have hatF := fun (L : List Own) (h : L[2]? = some (rowNn n x5.gF x5.cF F)) => at_rowN (B := B) h (k := hn) (by rw [hF.1]; exact hhn)
        clear l5
        generalize (word.getD a 0).toNat = m at *
        generalize F.getD hn 0 = fv at *
        generalize fv >>> m = sv at *
        repeat (first
          | refine qv rfl (qp rfl) rfl rfl ?_ | refine TL_nil ?_ | refine T_seq ?_ | refine T_region ?_ | refine qcT rfl ?_ | refine qcF rfl ?_ | refine T_skip ?_
          | refine T_exit ?_ | refine T_block ?_ | refine E_then ?_ | refine E_thenX ?_ | refine E_thenR ?_ | refine E_blockN ?_ | refine E_blockR ?_
          | refine E_blockX ?_ | refine E_blockO rfl ?_ | refine qs rfl rfl rfl rfl rfl rfl ?_
          | ((try refine qg rfl rfl rfl ?_); first | refine qv rfl (qp rfl) rfl rfl ?_ | refine qv rfl (rr_load1 TyC.ty rfl (at_blk (i := 0) rfl rfl)) rfl rfl ?_ | refine qv rfl (qlen Und.eq rfl) rfl rfl ?_ | refine qv rfl (qfld FldC.fld rfl rfl) rfl rfl ?_ | refine qv rfl (rr_nilc rfl) rfl rfl ?_ | refine qv rfl (rr_lss rfl rfl (qT (by omega))) rfl rfl ?_ | refine qv rfl (rr_lss rfl rfl (qF (by omega))) rfl rfl ?_ | refine qv rfl (rr_eql rfl rfl (qT (by omega))) rfl rfl ?_ | refine qv rfl (rr_eql rfl rfl (qF (by omega))) rfl rfl ?_ | refine qv rfl (rr_add64 rfl rfl (by omega) (by omega) rfl) rfl rfl ?_ | refine qv rfl (rr_neq rfl rfl (qT (by omega))) rfl rfl ?_ | refine qv rfl (rr_neq rfl rfl (qF (by omega))) rfl rfl ?_))
        refine T_ord ([blkO gl (lkV t (n : Int) (.slice (some ⟨b, off, none⟩) prods.length cp) (vRow n x5.gE x5.cE) (vRow n x5.gF x5.cF) (vRow n x5.gW x5.cW) (vRow n x5.gR x5.cR) (vRow n x5.gM x5.cM) (.slice (some ⟨gw, 0, none⟩) word.length cw) e) 73, rowBn n x5.gE x5.cE E, rowNn n x5.gF x5.cF F, rowNn n x5.gW x5.cW W, rowBn n x5.gR x5.cR R, rowBn n x5.gM x5.cM M, rowO 3 1 (.slice (some ⟨gw, 0, none⟩) word.length cw) word.length (word.map (.int .i64)), blkO g3 (treeV (pn : Int) k (.slice bk kids.length ck)).cells 46]) (.calm 0 (.calm 1 (.calm 2 (.calm 3 (.calm 4 (.calm 5 (.calm 6 (.calm 7 (.calm 8 (.calm 9 (.calm 10 (.calm 11 (.calm 12 (.calm 13 (.calm 14 (.calm 15 (.calm 16 (.calm 17 (.calm 18 (.calm 19 (.calm 20 (.calm 21 (.calm 22 (.calm 23 (.calm 24 (.calm 25 (.calm 26 (.one 27 (.done))))))))))))))))))))))))))))) (fun _ h => h) (by kernel_rfl) (by kernel_rfl) (by intro c a d v w h; cases d <;> exact h) ?_
        repeat (first
          | ((first | refine TW_plain rfl rfl ?_ | refine TW_gmet rfl rfl rfl rfl ?_); first | refine TN_val (qp rfl) rfl rfl ?_ | refine TN_val (rr_load1 TyC.ty rfl (at_blk (i := 0) rfl rfl)) rfl rfl ?_ | refine TN_val (rr_idx1 Und.eq TyC.ty rfl rfl hhn) rfl rfl ?_ | refine TN_val (rr_idx1 Und.eq TyC.ty rfl rfl h) rfl rfl ?_ | refine TN_val (rr_load1 TyC.ty rfl (hatF _ rfl)) rfl rfl ?_ | refine TN_val (rr_load1 TyC.ty rfl (at_row (i := 6) rfl hcw)) rfl rfl ?_ | refine TN_val (qlen Und.eq rfl) rfl rfl ?_ | refine TN_val (qfld FldC.fld rfl rfl) rfl rfl ?_ | refine TN_val (rr_nilc rfl) rfl rfl ?_ | refine TN_val (rr_lss rfl rfl (qT (by omega))) rfl rfl ?_ | refine TN_val (rr_lss rfl rfl (qF (by omega))) rfl rfl ?_ | refine TN_val (rr_eql rfl rfl (qT (by omega))) rfl rfl ?_ | refine TN_val (rr_eql rfl rfl (qF (by omega))) rfl rfl ?_ | refine TN_val (rr_add64 rfl rfl (by omega) (by omega) rfl) rfl rfl ?_ | refine TN_val (rr_shr rfl rfl hsr) rfl rfl ?_ | refine TN_val (rr_and rfl rfl hone) rfl rfl ?_ | refine TN_val (rr_neq rfl rfl (qT (by omega))) rfl rfl ?_ | refine TN_val (rr_neq rfl rfl (qF (by omega))) rfl rfl ?_)
          | refine TW_skip rfl rfl rfl rfl rfl rfl rfl ?_ | refine TW_done ?_)
        refine TW_one rfl ?_
        refine TL_store1 (i := 0) rfl rfl rfl rfl rfl rfl ?_
        rw [show (lkV t (n : Int) (.slice (some ⟨b, off, none⟩) prods.length cp) (vRow n x5.gE x5.cE) (vRow n x5.gF x5.cF) (vRow n x5.gW x5.cW) (vRow n x5.gR x5.cR) (vRow n x5.gM x5.cM) (.slice (some ⟨gw, 0, none⟩) word.length cw) e).setIfInBounds (0 + 10) (.bool true) = lkV t (n : Int) (.slice (some ⟨b, off, none⟩) prods.length cp) (vRow n x5.gE x5.cE) (vRow n x5.gF x5.cF) (vRow n x5.gW x5.cW) (vRow n x5.gR x5.cR) (vRow n x5.gM x5.cM) (.slice (some ⟨gw, 0, none⟩) word.length cw) e from rfl]
        conv => arg 8; simp only [zA, zB, zC, zD, zE, zF, zG, zH, zI, rowS, ret, id_eq]
        refine TW_on (fun _ h => h) ?_
        repeat (first
          | ((first | refine TW_plain rfl rfl ?_ | refine TW_gmet rfl rfl rfl rfl ?_); first | refine TN_val (qp rfl) rfl rfl ?_ | refine TN_val (qlen Und.eq rfl) rfl rfl ?_ | refine TN_val (qfld FldC.fld rfl rfl) rfl rfl ?_ | refine TN_val (rr_nilc rfl) rfl rfl ?_ | refine TN_val (rr_lss rfl rfl (qT (by omega))) rfl rfl ?_ | refine TN_val (rr_lss rfl rfl (qF (by omega))) rfl rfl ?_ | refine TN_val (rr_eql rfl rfl (qT (by omega))) rfl rfl ?_ | refine TN_val (rr_eql rfl rfl (qF (by omega))) rfl rfl ?_ | refine TN_val (rr_add64 rfl rfl (by omega) (by omega) rfl) rfl rfl ?_ | refine TN_val (rr_neq rfl rfl (qT (by omega))) rfl rfl ?_ | refine TN_val (rr_neq rfl rfl (qF (by omega))) rfl rfl ?_)
          | refine TW_skip rfl rfl rfl rfl rfl rfl rfl ?_ | refine TW_done ?_)
        exact E_end0 rfl fun w hm => hm.meetsB (S := ⟨fun (_ : Unit) => True, fun _ => .tuple #[], fun _ => lkL gl t n (.slice (some ⟨b, off, none⟩) prods.length cp) x5 (.slice (some ⟨gw, 0, none⟩) word.length cw) E R M F W word e⟩) () trivial [0, 1, 2, 3, 4, 5, 6] (by decide) rfl
end Go.Proofs.Ytnicebdkejkieaa.eng
