/- What count.Begins computes. -/
import Derived.Test.YtnicebdkejkieaaCountD
import Derived.Test.YtnicebdkejkieaaCountP
import Derived.Test.YtnicebdkejkieaaBeginL
import Derived.Test.YtnicebdkejkieaaTreeS
import Derived.Test.YtnicebdkejkieaaFactsF
namespace Go.Proofs.Ytnicebdkejkieaa.eng
open Go.RowKit kit mix gramL treeL countL factsL derL
abbrev idV (v : Value) : Value := v
theorem rowA_rows {T : TypeId} {g n m : Nat} {gs : Nat → Nat} : rowA T idV g n (fun j => if j < n then rowsV m (gs j) else .slice none 0 0) = rowA T (rowsV m) g n gs := by
  unfold rowA
  congr 1
  rw [tabA_congr (g := fun j => rowsV m (gs j)) fun i hi => by simp [hi]]
  simp [tabA]
set_option maxRecDepth 100000 in
set_option maxHeartbeats 16000000 in
theorem begins_calls (v vw : Value) (g : Gram) (word : List Int) (w : World) (h : GraR (fun k => k < w.heap.size) w v g) (hs : Sl w vw word.length (word.map (.int .i64))) :
    Calls Try.prog 55 #[v, vw] w (Meets (ret (.tuple #[.bool (beginsB g word), .int .i64 (checkC g word)])) w) := by
  have hck := fun w' (hg : Gr w w') => checkC_calls v vw g word w' (h.gr hg) (hs.gr hg)
  by_cases c0 : checkC g word = 0
  · have h0 := h
    obtain ⟨hg, hl, hw⟩ := checkC_ok c0
    obtain ⟨a1, a2, a3, a4, a5, a6⟩ := checkG_ok hg
    obtain ⟨n, hn⟩ : ∃ n : Nat, g.nons = n := ⟨g.nons.toNat, by omega⟩
    have hof := fun w' (hg' : Gr w w') => of_calls v g w' (h0.gr hg') hg n hn
    obtain ⟨vp, rfl, h1, _⟩ := h
    have hfi := fun w' (hg : Gr w w') => filled_calls vp vw g word w' (h0.gr hg) (hs.gr hg) c0
    have hbg := fun (c : Chart) hc O O' k => begins_of (g := g) (w := word) (n := n) (c := c) c0 hn hc (O := O) (O' := O') (k := k)
    obtain ⟨hokR, hsnd⟩ := sound_of hg hn
    obtain ⟨f1, f2⟩ := fineC_of hg hn
    have hsy := symsOk_of (n := n) hg hn
    rw [c0] at hck ⊢
    generalize beginsB g word = res at *
    obtain ⟨t, nn, prods⟩ := g
    dsimp only at *
    subst hn
    have hMl := hokR.2.2
    have hMs := hsnd.2
    generalize (ofS n prods).M = Mf at *
    clear hokR hsnd
    have hs0 := hs
    have hop := fun gc gm g11 gM cM vE vF vW vR vb c Bd O body frm w' hch hbits hM hsl hx hok hf h5 => opens_calls gc gm g11 n gM cM t vp vw vE vF vW vR vb word c Bd O Mf body frm w' hch hbits hM hMl.symm hsl hx hok hf hl h5
    obtain ⟨bw, cw, rfl, hw1, hw2, _⟩ := hs
    obtain ⟨bp, cp, rfl, _, hmp, hrp⟩ := h1
    unfold maxLen at hmp
    refine enter (args := [graV t (n : Int) (.slice bp prods.length cp), .slice bw word.length cw]) (n := 93) Try.func55 rfl rfl rfl ?_
    refine T_seq (T_region (TL_box rfl rfl rfl fun g2 => ?_))
    conv => arg 8; simp only [zA, zB, zC, zD, zE, zF, zG, zH, zI, rowS, ret, id_eq]
    repeat (first
      | refine qv rfl (qp rfl) rfl rfl ?_ | refine TL_nil ?_ | refine T_seq ?_ | refine T_region ?_ | refine qcT rfl ?_ | refine qcF rfl ?_ | refine T_skip ?_
      | refine T_exit ?_ | refine T_ret ?_ | refine T_block ?_ | refine E_then ?_ | refine E_thenX ?_ | refine E_thenR ?_ | refine E_blockN ?_
      | refine E_blockR ?_ | refine E_blockX ?_ | refine E_blockO rfl ?_ | refine qs rfl rfl rfl rfl rfl rfl ?_
      | ((try refine qg rfl rfl rfl ?_); first | refine qv rfl (qp rfl) rfl rfl ?_ | refine qv rfl (rr_loadB (i := 0) TyC.ty rfl rfl rfl) rfl rfl ?_ | refine qv rfl (qlen Und.eq rfl) rfl rfl ?_ | refine qv rfl (qfld FldC.fld rfl rfl) rfl rfl ?_ | refine qv rfl (rr_not rfl rfl) rfl rfl ?_ | refine qv rfl (rr_lss rfl rfl (qT (by omega))) rfl rfl ?_ | refine qv rfl (rr_lss rfl rfl (qF (by omega))) rfl rfl ?_ | refine qv rfl (rr_neq rfl rfl (qT (by omega))) rfl rfl ?_ | refine qv rfl (rr_neq rfl rfl (qF (by omega))) rfl rfl ?_ | refine qv rfl (rr_add64 rfl rfl (by omega) (by omega) rfl) rfl rfl ?_))
    refine TL_call (he2 EntersC.en rfl rfl rfl) (fun w hm => hck _ hm.below) rfl rfl rfl ?_
    intro _ _
    conv => arg 8; simp only [zA, zB, zC, zD, zE, zF, zG, zH, zI, rowS, ret, id_eq]
    repeat (first
      | refine qv rfl (qp rfl) rfl rfl ?_ | refine TL_nil ?_ | refine T_seq ?_ | refine T_region ?_ | refine qcT rfl ?_ | refine qcF rfl ?_ | refine T_skip ?_
      | refine T_exit ?_ | refine T_ret ?_ | refine T_block ?_ | refine E_then ?_ | refine E_thenX ?_ | refine E_thenR ?_ | refine E_blockN ?_
      | refine E_blockR ?_ | refine E_blockX ?_ | refine E_blockO rfl ?_ | refine qs rfl rfl rfl rfl rfl rfl ?_
      | ((try refine qg rfl rfl rfl ?_); first | refine qv rfl (qp rfl) rfl rfl ?_ | refine qv rfl (rr_loadB (i := 0) TyC.ty rfl rfl rfl) rfl rfl ?_ | refine qv rfl (qlen Und.eq rfl) rfl rfl ?_ | refine qv rfl (qfld FldC.fld rfl rfl) rfl rfl ?_ | refine qv rfl (rr_not rfl rfl) rfl rfl ?_ | refine qv rfl (rr_lss rfl rfl (qT (by omega))) rfl rfl ?_ | refine qv rfl (rr_lss rfl rfl (qF (by omega))) rfl rfl ?_ | refine qv rfl (rr_neq rfl rfl (qT (by omega))) rfl rfl ?_ | refine qv rfl (rr_neq rfl rfl (qF (by omega))) rfl rfl ?_ | refine qv rfl (rr_add64 rfl rfl (by omega) (by omega) rfl) rfl rfl ?_))
    refine TL_call (he1 EntersC.en rfl rfl) (fun w' hm => (hof w' hm.below).mono fun e w2 h => meets_of h) rfl rfl rfl ?_
    rintro x _
    conv => arg 8; simp only [zA, zB, zC, zD, zE, zF, zG, zH, zI, rowS, ret, id_eq]
    refine TL_pick [0, 5] (by decide) rfl ?_
    repeat (first
      | refine qv rfl (qp rfl) rfl rfl ?_ | refine TL_nil ?_ | refine T_seq ?_ | refine T_region ?_ | refine qcT rfl ?_ | refine qcF rfl ?_ | refine T_skip ?_
      | refine T_exit ?_ | refine T_ret ?_ | refine T_block ?_ | refine E_then ?_ | refine E_thenX ?_ | refine E_thenR ?_ | refine E_blockN ?_
      | refine E_blockR ?_ | refine E_blockX ?_ | refine E_blockO rfl ?_ | refine qs rfl rfl rfl rfl rfl rfl ?_
      | ((try refine qg rfl rfl rfl ?_); first | refine qv rfl (qp rfl) rfl rfl ?_ | refine qv rfl (qlen Und.eq rfl) rfl rfl ?_ | refine qv rfl (qfld FldC.fld rfl rfl) rfl rfl ?_ | refine qv rfl (rr_not rfl rfl) rfl rfl ?_ | refine qv rfl (rr_lss rfl rfl (qT (by omega))) rfl rfl ?_ | refine qv rfl (rr_lss rfl rfl (qF (by omega))) rfl rfl ?_ | refine qv rfl (rr_neq rfl rfl (qT (by omega))) rfl rfl ?_ | refine qv rfl (rr_neq rfl rfl (qF (by omega))) rfl rfl ?_ | refine qv rfl (rr_add64 rfl rfl (by omega) (by omega) rfl) rfl rfl ?_))
    refine TL_new rfl fun g7 => ?_
    refine TL_storeB (i := 2) rfl rfl rfl rfl rfl rfl ?_
    conv => arg 8; simp only [zA, zB, zC, zD, zE, zF, zG, zH, zI, rowS, ret, id_eq]
    repeat (first
      | refine qv rfl (qp rfl) rfl rfl ?_ | refine TL_nil ?_ | refine T_seq ?_ | refine T_region ?_ | refine qcT rfl ?_ | refine qcF rfl ?_ | refine T_skip ?_
      | refine T_exit ?_ | refine T_ret ?_ | refine T_block ?_ | refine E_then ?_ | refine E_thenX ?_ | refine E_thenR ?_ | refine E_blockN ?_
      | refine E_blockR ?_ | refine E_blockX ?_ | refine E_blockO rfl ?_ | refine qs rfl rfl rfl rfl rfl rfl ?_
      | ((try refine qg rfl rfl rfl ?_); first | refine qv rfl (qp rfl) rfl rfl ?_ | refine qv rfl (rr_loadB (i := 0) TyC.ty rfl rfl rfl) rfl rfl ?_ | refine qv rfl (qlen Und.eq rfl) rfl rfl ?_ | refine qv rfl (qfld FldC.fld rfl rfl) rfl rfl ?_ | refine qv rfl (rr_not rfl rfl) rfl rfl ?_ | refine qv rfl (rr_lss rfl rfl (qT (by omega))) rfl rfl ?_ | refine qv rfl (rr_lss rfl rfl (qF (by omega))) rfl rfl ?_ | refine qv rfl (rr_neq rfl rfl (qT (by omega))) rfl rfl ?_ | refine qv rfl (rr_neq rfl rfl (qF (by omega))) rfl rfl ?_ | refine qv rfl (rr_add64 rfl rfl (by omega) (by omega) rfl) rfl rfl ?_))
    refine TL_call (he2 EntersC.en rfl rfl rfl) (fun w' hm => hfi w' hm.below) rfl rfl rfl ?_
    rintro ⟨gc, gm, c, Bd⟩ ⟨hx, _⟩
    dsimp only at hx
    have hx : Lfp word prods n c := hx
    have hbg2 := hbg c hx
    clear hfi hck hof
    conv => arg 8; simp only [zA, zB, zC, zD, zE, zF, zG, zH, zI, rowS, ret, id_eq, filledS]
    repeat (first
      | refine qv rfl (qp rfl) rfl rfl ?_ | refine TL_nil ?_ | refine T_seq ?_ | refine T_region ?_ | refine qcT rfl ?_ | refine qcF rfl ?_ | refine T_skip ?_
      | refine T_exit ?_ | refine T_ret ?_ | refine T_block ?_ | refine E_then ?_ | refine E_thenX ?_ | refine E_thenR ?_ | refine E_blockN ?_
      | refine E_blockR ?_ | refine E_blockX ?_ | refine E_blockO rfl ?_ | refine qs rfl rfl rfl rfl rfl rfl ?_
      | ((try refine qg rfl rfl rfl ?_); first | refine qv rfl (qp rfl) rfl rfl ?_ | refine qv rfl (rr_load1 TyC.ty rfl (at_blk (i := 0) rfl rfl)) rfl rfl ?_ | refine qv rfl (qlen Und.eq rfl) rfl rfl ?_ | refine qv rfl (qfld FldC.fld rfl rfl) rfl rfl ?_ | refine qv rfl (rr_not rfl rfl) rfl rfl ?_ | refine qv rfl (rr_lss rfl rfl (qT (by omega))) rfl rfl ?_ | refine qv rfl (rr_lss rfl rfl (qF (by omega))) rfl rfl ?_ | refine qv rfl (rr_neq rfl rfl (qT (by omega))) rfl rfl ?_ | refine qv rfl (rr_neq rfl rfl (qF (by omega))) rfl rfl ?_ | refine qv rfl (rr_add64 rfl rfl (by omega) (by omega) rfl) rfl rfl ?_))
    refine TL_makeA idV (.slice none 0 0) rfl rfl (by omega) (by omega) rfl fun g11 => ?_
    conv => arg 8; simp only [zA, zB, zC, zD, zE, zF, zG, zH, zI, rowS, ret, id_eq]
    repeat (first
      | refine qv rfl (qp rfl) rfl rfl ?_ | refine TL_nil ?_ | refine T_seq ?_ | refine T_region ?_ | refine qcT rfl ?_ | refine qcF rfl ?_ | refine T_skip ?_
      | refine T_exit ?_ | refine T_ret ?_ | refine T_block ?_ | refine E_then ?_ | refine E_thenX ?_ | refine E_thenR ?_ | refine E_blockN ?_
      | refine E_blockR ?_ | refine E_blockX ?_ | refine E_blockO rfl ?_ | refine qs rfl rfl rfl rfl rfl rfl ?_
      | ((try refine qg rfl rfl rfl ?_); first | refine qv rfl (qp rfl) rfl rfl ?_ | refine qv rfl (qlen Und.eq rfl) rfl rfl ?_ | refine qv rfl (qfld FldC.fld rfl rfl) rfl rfl ?_ | refine qv rfl (rr_not rfl rfl) rfl rfl ?_ | refine qv rfl (rr_lss rfl rfl (qT (by omega))) rfl rfl ?_ | refine qv rfl (rr_lss rfl rfl (qF (by omega))) rfl rfl ?_ | refine qv rfl (rr_neq rfl rfl (qT (by omega))) rfl rfl ?_ | refine qv rfl (rr_neq rfl rfl (qF (by omega))) rfl rfl ?_ | refine qv rfl (rr_add64 rfl rfl (by omega) (by omega) rfl) rfl rfl ?_))
    refine T_extra (famP (fun k => k < 0) fun i => rowA 4 boolV 0 (word.length + 1) fun _ => false) (fun k hk => hk.elim (fun h => by cases h) fun ⟨i, h, _⟩ => by omega) (fun w => ⟨fun i h => by omega, fun i j h => by omega⟩) ?_
    refine T_loop (ι := Nat × (Nat → Nat)) (fun (k, _) => k ≤ n) (fun (k, _) => [(2, .pointer (some ⟨g2, 0, none⟩)), (7, .pointer (some ⟨g7, 0, none⟩)), (9, .pointer (some ⟨gc, 0, none⟩)), (10, .int .i64 word.length), (11, .slice (some ⟨g11, 0, none⟩) n n), (37, .int .i64 (n : Int)), (38, .int .i64 (k : Int))])
      (fun (k, gs) => [blkO g2 (graV t (n : Int) (.slice bp prods.length cp)).cells 24, rowBn n x.gM x.cM Mf, blkO g7 (facV (vRow n x.gE x.cE) (vRow n x.gF x.cF) (vRow n x.gW x.cW) (vRow n x.gR x.cR) (vRow n x.gM x.cM)).cells 63, blkO gc (chV t (n : Int) (.slice bp prods.length cp) (.slice bw word.length cw) gm) 104, chM gm c Bd, rowA 60 idV g11 n (fun j => if j < k then rowsV (word.length + 1) (gs j) else .slice none 0 0), famP (fun j => j < k) fun j => rowA 4 boolV (gs j) (word.length + 1) fun _ => false]) (fun (k, _) => n - k) (0, fun _ => 0) (Nat.zero_le _) (by repeat' (first | exact True.intro | refine And.intro rfl ?_)) rfl ?_
    rintro ⟨k, gs⟩ k1
    dsimp only at k1 ⊢
    by_cases c7 : k < n
    · repeat (first
        | refine qv rfl (qp rfl) rfl rfl ?_ | refine TL_nil ?_ | refine T_seq ?_ | refine T_region ?_ | refine qcT rfl ?_ | refine qcF rfl ?_ | refine T_skip ?_
        | refine T_exit ?_ | refine T_ret ?_ | refine T_block ?_ | refine E_then ?_ | refine E_thenX ?_ | refine E_thenR ?_ | refine E_blockN ?_
        | refine E_blockR ?_ | refine E_blockX ?_ | refine E_blockO rfl ?_ | refine qs rfl rfl rfl rfl rfl rfl ?_
        | ((try refine qg rfl rfl rfl ?_); first | refine qv rfl (qp rfl) rfl rfl ?_ | refine qv rfl (rr_add64 (r := ((word.length + 1 : Nat) : Int)) rfl rfl (by omega) (by omega) (by omega)) rfl rfl ?_ | refine qv rfl (qlen Und.eq rfl) rfl rfl ?_ | refine qv rfl (qfld FldC.fld rfl rfl) rfl rfl ?_ | refine qv rfl (rr_not rfl rfl) rfl rfl ?_ | refine qv rfl (rr_lss rfl rfl (qT (by omega))) rfl rfl ?_ | refine qv rfl (rr_lss rfl rfl (qF (by omega))) rfl rfl ?_ | refine qv rfl (rr_neq rfl rfl (qT (by omega))) rfl rfl ?_ | refine qv rfl (rr_neq rfl rfl (qF (by omega))) rfl rfl ?_ | refine qv rfl (rr_add64 rfl rfl (by omega) (by omega) rfl) rfl rfl ?_))
      refine TL_makeA boolV false rfl rfl (by omega) (by omega) rfl fun g45 => ?_
      conv => arg 8; simp only [zA, zB, zC, zD, zE, zF, zG, zH, zI, rowS, ret, id_eq]
      repeat (first
        | refine qv rfl (qp rfl) rfl rfl ?_ | refine TL_nil ?_ | refine T_seq ?_ | refine T_region ?_ | refine qcT rfl ?_ | refine qcF rfl ?_ | refine T_skip ?_
        | refine T_exit ?_ | refine T_ret ?_ | refine T_block ?_ | refine E_then ?_ | refine E_thenX ?_ | refine E_thenR ?_ | refine E_blockN ?_
        | refine E_blockR ?_ | refine E_blockX ?_ | refine E_blockO rfl ?_ | refine qs rfl rfl rfl rfl rfl rfl ?_
        | ((try refine qg rfl rfl rfl ?_); first | refine qv rfl (qp rfl) rfl rfl ?_ | refine qv rfl (rr_idx1 Und.eq TyC.ty rfl rfl c7) rfl rfl ?_ | refine qv rfl (qlen Und.eq rfl) rfl rfl ?_ | refine qv rfl (qfld FldC.fld rfl rfl) rfl rfl ?_ | refine qv rfl (rr_not rfl rfl) rfl rfl ?_ | refine qv rfl (rr_lss rfl rfl (qT (by omega))) rfl rfl ?_ | refine qv rfl (rr_lss rfl rfl (qF (by omega))) rfl rfl ?_ | refine qv rfl (rr_neq rfl rfl (qT (by omega))) rfl rfl ?_ | refine qv rfl (rr_neq rfl rfl (qF (by omega))) rfl rfl ?_ | refine qv rfl (rr_add64 rfl rfl (by omega) (by omega) rfl) rfl rfl ?_))
      refine TL_storeA (i := 5) (v := rowsV (word.length + 1) g45) (fun j => if j < k + 1 then rowsV (word.length + 1) (if j = k then g45 else gs j) else .slice none 0 0) TyC.ty rfl rfl rfl rfl rfl c7 (fun i _ => by
        by_cases e : i = k
        · subst e; simp
        · by_cases e2 : i < k
          · simp [e, e2, show i < k + 1 by omega]
          · simp [e, e2, show ¬ i < k + 1 by omega]) ?_
      conv => arg 8; simp only [zA, zB, zC, zD, zE, zF, zG, zH, zI, rowS, ret, id_eq]
      repeat (first
        | refine qv rfl (qp rfl) rfl rfl ?_ | refine TL_nil ?_ | refine T_seq ?_ | refine T_region ?_ | refine qcT rfl ?_ | refine qcF rfl ?_ | refine T_skip ?_
        | refine T_exit ?_ | refine T_ret ?_ | refine T_block ?_ | refine E_then ?_ | refine E_thenX ?_ | refine E_thenR ?_ | refine E_blockN ?_
        | refine E_blockR ?_ | refine E_blockX ?_ | refine E_blockO rfl ?_ | refine qs rfl rfl rfl rfl rfl rfl ?_
        | ((try refine qg rfl rfl rfl ?_); first | refine qv rfl (qp rfl) rfl rfl ?_ | refine qv rfl (qlen Und.eq rfl) rfl rfl ?_ | refine qv rfl (qfld FldC.fld rfl rfl) rfl rfl ?_ | refine qv rfl (rr_not rfl rfl) rfl rfl ?_ | refine qv rfl (rr_lss rfl rfl (qT (by omega))) rfl rfl ?_ | refine qv rfl (rr_lss rfl rfl (qF (by omega))) rfl rfl ?_ | refine qv rfl (rr_neq rfl rfl (qT (by omega))) rfl rfl ?_ | refine qv rfl (rr_neq rfl rfl (qF (by omega))) rfl rfl ?_ | refine qv rfl (rr_add64 rfl rfl (by omega) (by omega) rfl) rfl rfl ?_))
      refine E_put (D' := fun j => j < k + 1) (f' := fun j => rowA 4 boolV (if j = k then g45 else gs j) (word.length + 1) fun _ => false) k 6 7 [0, 1, 2, 3, 4, 5] (by decide) rfl rfl rfl (by omega) (fun j hj => by omega) (fun j hj => by
        unfold upd
        by_cases e : j = k <;> simp [e]) ?_
      exact E_round (k + 1, fun j => if j = k then g45 else gs j) (by show k + 1 ≤ n; omega) (by show n - (k + 1) < n - k; omega) (by repeat' (first | exact True.intro | refine And.intro rfl ?_)) rfl
    · obtain rfl : k = n := by omega
      rw [rowA_rows]
      repeat (first
        | refine qv rfl (qp rfl) rfl rfl ?_ | refine TL_nil ?_ | refine T_seq ?_ | refine T_region ?_ | refine qcT rfl ?_ | refine qcF rfl ?_ | refine T_skip ?_
        | refine T_exit ?_ | refine T_ret ?_ | refine T_block ?_ | refine E_then ?_ | refine E_thenX ?_ | refine E_thenR ?_ | refine E_blockN ?_
        | refine E_blockR ?_ | refine E_blockX ?_ | refine E_blockO rfl ?_ | refine qs rfl rfl rfl rfl rfl rfl ?_
        | ((try refine qg rfl rfl rfl ?_); first | refine qv rfl (qp rfl) rfl rfl ?_ | refine qv rfl (qlen Und.eq rfl) rfl rfl ?_ | refine qv rfl (qfld FldC.fld rfl rfl) rfl rfl ?_ | refine qv rfl (rr_not rfl rfl) rfl rfl ?_ | refine qv rfl (rr_lss rfl rfl (qT (by omega))) rfl rfl ?_ | refine qv rfl (rr_lss rfl rfl (qF (by omega))) rfl rfl ?_ | refine qv rfl (rr_neq rfl rfl (qT (by omega))) rfl rfl ?_ | refine qv rfl (rr_neq rfl rfl (qF (by omega))) rfl rfl ?_ | refine qv rfl (rr_add64 rfl rfl (by omega) (by omega) rfl) rfl rfl ?_))
      refine T_loop (ι := (Nat → Nat → Bool) × Bool) (fun (O, mr) => SoundO prods word O ∧ (mr = false → O 0 0 = res)) (fun (_, mr) => [(2, .pointer (some ⟨g2, 0, none⟩)), (7, .pointer (some ⟨g7, 0, none⟩)), (9, .pointer (some ⟨gc, 0, none⟩)), (10, .int .i64 word.length), (11, .slice (some ⟨g11, 0, none⟩) k k), (13, .bool mr)])
        (fun (O, _) => [blkO g2 (graV t (k : Int) (.slice bp prods.length cp)).cells 24, rowBn k x.gM x.cM Mf, blkO g7 (facV (vRow k x.gE x.cE) (vRow k x.gF x.cF) (vRow k x.gW x.cW) (vRow k x.gR x.cR) (vRow k x.gM x.cM)).cells 63, blkO gc (chV t (k : Int) (.slice bp prods.length cp) (.slice bw word.length cw) gm) 104, chM gm c Bd, rowA 60 (rowsV (word.length + 1)) g11 k gs, famP (fun j => j < k) fun j => rowA 4 boolV (gs j) (word.length + 1) (O j)]) (fun (O, mr) => 2 * fal k (word.length + 1) O + (if mr = true then 1 else 0)) (fun _ _ => false, true) ⟨fun _ _ h => (by cases h), fun h => (by cases h)⟩ (by repeat' (first | exact True.intro | refine And.intro rfl ?_)) rfl ?_
      rintro ⟨O, mr⟩ ⟨i1, i2⟩
      dsimp only at i1 i2 ⊢
      cases mr
      · have i2 := i2 rfl
        have hk0 : 0 < k := by omega
        have hb0 : ∀ L : List Own, L[6]? = some (famP (fun j => j < k) fun j => rowA 4 boolV (gs j) (word.length + 1) (O j)) → At w L ⟨gs 0, 0 + 0, none⟩ (.bool res) := fun L hL => by
          rw [← i2]
          exact at_hold hL fun w hh => rowA_cell (hh.1 0 hk0) (by omega)
        repeat (first
          | refine qv rfl (qp rfl) rfl rfl ?_ | refine TL_nil ?_ | refine T_seq ?_ | refine T_region ?_ | refine qcT rfl ?_ | refine qcF rfl ?_ | refine T_skip ?_
          | refine T_exit ?_ | refine T_ret ?_ | refine T_block ?_ | refine E_then ?_ | refine E_thenX ?_ | refine E_thenR ?_ | refine E_blockN ?_
          | refine E_blockR ?_ | refine E_blockX ?_ | refine E_blockO rfl ?_ | refine qs rfl rfl rfl rfl rfl rfl ?_
          | ((try refine qg rfl rfl rfl ?_); first | refine qv rfl (qp rfl) rfl rfl ?_ | refine qv rfl (rr_idx1 (j := 0) Und.eq TyC.ty rfl rfl hk0) rfl rfl ?_ | refine qv rfl (rr_load1 TyC.ty rfl (at_rowA (i := 5) (k := 0) rfl hk0)) rfl rfl ?_ | refine qv rfl (rr_idx1 (j := 0) Und.eq TyC.ty rfl rfl (by omega : 0 < word.length + 1)) rfl rfl ?_ | refine qv rfl (rr_load1 TyC.ty rfl (hb0 _ rfl)) rfl rfl ?_ | refine qv rfl (qlen Und.eq rfl) rfl rfl ?_ | refine qv rfl (qfld FldC.fld rfl rfl) rfl rfl ?_ | refine qv rfl (rr_not rfl rfl) rfl rfl ?_ | refine qv rfl (rr_lss rfl rfl (qT (by omega))) rfl rfl ?_ | refine qv rfl (rr_lss rfl rfl (qF (by omega))) rfl rfl ?_ | refine qv rfl (rr_neq rfl rfl (qT (by omega))) rfl rfl ?_ | refine qv rfl (rr_neq rfl rfl (qF (by omega))) rfl rfl ?_ | refine qv rfl (rr_add64 rfl rfl (by omega) (by omega) rfl) rfl rfl ?_))
        exact E_ret2 rfl rfl rfl fun w hm => hm.ret
      · clear i2
        repeat (first
          | refine qv rfl (qp rfl) rfl rfl ?_ | refine TL_nil ?_ | refine T_seq ?_ | refine T_region ?_ | refine qcT rfl ?_ | refine qcF rfl ?_ | refine T_skip ?_
          | refine T_exit ?_ | refine T_ret ?_ | refine T_block ?_ | refine E_then ?_ | refine E_thenX ?_ | refine E_thenR ?_ | refine E_blockN ?_
          | refine E_blockR ?_ | refine E_blockX ?_ | refine E_blockO rfl ?_ | refine qs rfl rfl rfl rfl rfl rfl ?_
          | ((try refine qg rfl rfl rfl ?_); first | refine qv rfl (qp rfl) rfl rfl ?_ | refine qv rfl (rr_load1 TyC.ty rfl (at_blk (i := 0) rfl rfl)) rfl rfl ?_ | refine qv rfl (qlen Und.eq rfl) rfl rfl ?_ | refine qv rfl (qfld FldC.fld rfl rfl) rfl rfl ?_ | refine qv rfl (rr_not rfl rfl) rfl rfl ?_ | refine qv rfl (rr_lss rfl rfl (qT (by omega))) rfl rfl ?_ | refine qv rfl (rr_lss rfl rfl (qF (by omega))) rfl rfl ?_ | refine qv rfl (rr_neq rfl rfl (qT (by omega))) rfl rfl ?_ | refine qv rfl (rr_neq rfl rfl (qF (by omega))) rfl rfl ?_ | refine qv rfl (rr_add64 rfl rfl (by omega) (by omega) rfl) rfl rfl ?_))
        refine T_loop (ι := Nat × (Nat → Nat → Bool) × Bool) (fun (i, O', m2) => i ≤ prods.length ∧ PassO prods word (oneF c word) Mf k O O' m2 i 0) (fun (i, _, m2) => [(2, .pointer (some ⟨g2, 0, none⟩)), (7, .pointer (some ⟨g7, 0, none⟩)), (9, .pointer (some ⟨gc, 0, none⟩)), (10, .int .i64 word.length), (11, .slice (some ⟨g11, 0, none⟩) k k), (13, .bool m2), (50, .slice bp prods.length cp), (51, .int .i64 prods.length), (52, .int .i64 (i : Int))])
          (fun (_, O', _) => [blkO g2 (graV t (k : Int) (.slice bp prods.length cp)).cells 24, rowBn k x.gM x.cM Mf, blkO g7 (facV (vRow k x.gE x.cE) (vRow k x.gF x.cF) (vRow k x.gW x.cW) (vRow k x.gR x.cR) (vRow k x.gM x.cM)).cells 63, blkO gc (chV t (k : Int) (.slice bp prods.length cp) (.slice bw word.length cw) gm) 104, chM gm c Bd, rowA 60 (rowsV (word.length + 1)) g11 k gs, famP (fun j => j < k) fun j => rowA 4 boolV (gs j) (word.length + 1) (O' j)]) (fun (i, _, _) => prods.length - i) (0, O, false) ⟨Nat.zero_le _, PassO.start i1 _ _⟩ (by repeat' (first | exact True.intro | refine And.intro rfl ?_)) rfl ?_
        rintro ⟨i, O', m2⟩ ⟨j1, j2⟩
        dsimp only at j1 j2 ⊢
        by_cases c8 : i < prods.length
        · obtain ⟨b, off, rfl, _, hr⟩ := hrp (by omega)
          obtain ⟨bb, cb, y1, y2, y3⟩ := prod_at hr c8
          have hat : ∀ (L : List Own) (j : Nat) (v : Value), ([.int .i64 prods[i].1, .slice bb prods[i].2.length cb] : List Value)[j]? = some v → At w L ⟨b, off + i * 2 + j, none⟩ v := fun L j v hj => at_old (y1 j v hj)
          have hfl := y3.flat (by decide)
          obtain ⟨s1, s2, s3⟩ := hsy _ (List.getElem_mem c8)
          have hok3 := (f1 _ (List.getElem_mem c8)).2.2
          have hskip := fun (O' : Nat → Nat → Bool) m2 a (h : PassO prods word (oneF c word) Mf k O O' m2 i a) hn => h.skip c8 hn
          have hset := fun (O' : Nat → Nat → Bool) m2 a (h : PassO prods word (oneF c word) Mf k O O' m2 i a) h1 h2 h3 h4 => h.set hMs hx hsy c8 h1 h2 h3 h4
          clear y1 y3 hr hrp
          generalize prods[i] = pd at *
          obtain ⟨hd, body⟩ := pd
          dsimp only at *
          obtain ⟨hn, rfl⟩ : ∃ hn : Nat, hd = hn := ⟨hd.toNat, by omega⟩
          have hlt : hn < k := by omega
          rw [Int.toNat_natCast] at hskip hset
          have hop := fun O' a w' hch hbits hM hsl ha => hop gc gm g11 x.gM x.cM (vRow k x.gE x.cE) (vRow k x.gF x.cF) (vRow k x.gW x.cW) (vRow k x.gR x.cR) (.slice bb body.length cb) c Bd O' body a w' hch hbits hM hsl s3 hok3 ha ⟨_, _, _, _, _, _, _, _, _, _, _, _, rfl, rfl, rfl, rfl⟩
          repeat (first
            | refine qv rfl (qp rfl) rfl rfl ?_ | refine TL_nil ?_ | refine T_seq ?_ | refine T_region ?_ | refine qcT rfl ?_ | refine qcF rfl ?_ | refine T_skip ?_
            | refine T_exit ?_ | refine T_ret ?_ | refine T_block ?_ | refine E_then ?_ | refine E_thenX ?_ | refine E_thenR ?_ | refine E_blockN ?_
            | refine E_blockR ?_ | refine E_blockX ?_ | refine E_blockO rfl ?_ | refine qs rfl rfl rfl rfl rfl rfl ?_
            | ((try refine qg rfl rfl rfl ?_); first | refine qv rfl (qp rfl) rfl rfl ?_ | refine qv rfl (rr_idxc Und.eq TyC.ty rfl rfl c8) rfl rfl ?_ | refine qv rfl (rr_loadN TyC.ty rfl rfl (hat _)) rfl rfl ?_ | refine qv rfl (qlen Und.eq rfl) rfl rfl ?_ | refine qv rfl (qfld FldC.fld rfl rfl) rfl rfl ?_ | refine qv rfl (rr_not rfl rfl) rfl rfl ?_ | refine qv rfl (rr_lss rfl rfl (qT (by omega))) rfl rfl ?_ | refine qv rfl (rr_lss rfl rfl (qF (by omega))) rfl rfl ?_ | refine qv rfl (rr_neq rfl rfl (qT (by omega))) rfl rfl ?_ | refine qv rfl (rr_neq rfl rfl (qF (by omega))) rfl rfl ?_ | refine qv rfl (rr_add64 rfl rfl (by omega) (by omega) rfl) rfl rfl ?_))
          refine TL_new rfl fun g15 => ?_
          refine TL_storeB (i := 7) rfl rfl rfl rfl rfl rfl ?_
          conv => arg 8; simp only [zA, zB, zC, zD, zE, zF, zG, zH, zI, rowS, ret, id_eq]
          repeat (first
            | refine qv rfl (qp rfl) rfl rfl ?_ | refine TL_nil ?_ | refine T_seq ?_ | refine T_region ?_ | refine qcT rfl ?_ | refine qcF rfl ?_ | refine T_skip ?_
            | refine T_exit ?_ | refine T_ret ?_ | refine T_block ?_ | refine E_then ?_ | refine E_thenX ?_ | refine E_thenR ?_ | refine E_blockN ?_
            | refine E_blockR ?_ | refine E_blockX ?_ | refine E_blockO rfl ?_ | refine qs rfl rfl rfl rfl rfl rfl ?_
            | ((try refine qg rfl rfl rfl ?_); first | refine qv rfl (qp rfl) rfl rfl ?_ | refine qv rfl (rr_add64 (r := ((word.length + 1 : Nat) : Int)) rfl rfl (by omega) (by omega) (by omega)) rfl rfl ?_ | refine qv rfl (qlen Und.eq rfl) rfl rfl ?_ | refine qv rfl (qfld FldC.fld rfl rfl) rfl rfl ?_ | refine qv rfl (rr_not rfl rfl) rfl rfl ?_ | refine qv rfl (rr_lss rfl rfl (qT (by omega))) rfl rfl ?_ | refine qv rfl (rr_lss rfl rfl (qF (by omega))) rfl rfl ?_ | refine qv rfl (rr_neq rfl rfl (qT (by omega))) rfl rfl ?_ | refine qv rfl (rr_neq rfl rfl (qF (by omega))) rfl rfl ?_ | refine qv rfl (rr_add64 rfl rfl (by omega) (by omega) rfl) rfl rfl ?_))
          refine T_pick [0, 1, 2, 3, 4, 5, 7, 6] (by decide) rfl ?_
          refine T_loop (ι := Nat × (Nat → Nat → Bool) × Bool) (fun (a, O', m2) => a ≤ word.length + 1 ∧ PassO prods word (oneF c word) Mf k O O' m2 i a) (fun (a, _, m2) => [(2, .pointer (some ⟨g2, 0, none⟩)), (7, .pointer (some ⟨g7, 0, none⟩)), (9, .pointer (some ⟨gc, 0, none⟩)), (10, .int .i64 word.length), (11, .slice (some ⟨g11, 0, none⟩) k k), (13, .bool m2), (15, .pointer (some ⟨g15, 0, none⟩)), (50, .slice (some ⟨b, off, none⟩) prods.length cp), (51, .int .i64 prods.length), (52, .int .i64 (i : Int)), (57, .int .i64 ((word.length + 1 : Nat) : Int)), (58, .int .i64 (a : Int))])
            (fun (_, O', _) => [blkO g2 (graV t (k : Int) (.slice (some ⟨b, off, none⟩) prods.length cp)).cells 24, rowBn k x.gM x.cM Mf, blkO g7 (facV (vRow k x.gE x.cE) (vRow k x.gF x.cF) (vRow k x.gW x.cW) (vRow k x.gR x.cR) (vRow k x.gM x.cM)).cells 63, blkO gc (chV t (k : Int) (.slice (some ⟨b, off, none⟩) prods.length cp) (.slice bw word.length cw) gm) 104, chM gm c Bd, rowA 60 (rowsV (word.length + 1)) g11 k gs, blkO g15 #[.int .i64 (hn : Int), .slice bb body.length cb] 36, famP (fun j => j < k) fun j => rowA 4 boolV (gs j) (word.length + 1) (O' j)]) (fun (a, _, _) => word.length + 1 - a) (0, O', m2) ⟨Nat.zero_le _, j2⟩ (by repeat' (first | exact True.intro | refine And.intro rfl ?_)) rfl ?_
          clear j2
          rintro ⟨a, O', m2⟩ ⟨l1, l2⟩
          dsimp only at l1 l2 ⊢
          by_cases c9 : a < word.length + 1
          · have hbit0 : ∀ L : List Own, L[7]? = some (famP (fun j => j < k) fun j => rowA 4 boolV (gs j) (word.length + 1) (O' j)) → At w L ⟨gs hn, 0 + a, none⟩ (.bool (O' hn a)) := fun L hL => at_hold hL fun w hh => rowA_cell (hh.1 hn hlt) c9
            cases hOb : O' hn a
            · have hbit : ∀ L : List Own, L[7]? = some (famP (fun j => j < k) fun j => rowA 4 boolV (gs j) (word.length + 1) (O' j)) → At w L ⟨gs hn, 0 + a, none⟩ (.bool false) := by rw [← hOb]; exact hbit0
              repeat (first
                | refine qv rfl (qp rfl) rfl rfl ?_ | refine TL_nil ?_ | refine T_seq ?_ | refine T_region ?_ | refine qcT rfl ?_ | refine qcF rfl ?_ | refine T_skip ?_
                | refine T_exit ?_ | refine T_ret ?_ | refine T_block ?_ | refine E_then ?_ | refine E_thenX ?_ | refine E_thenR ?_ | refine E_blockN ?_
                | refine E_blockR ?_ | refine E_blockX ?_ | refine E_blockO rfl ?_ | refine qs rfl rfl rfl rfl rfl rfl ?_
                | ((try refine qg rfl rfl rfl ?_); first | refine qv rfl (qp rfl) rfl rfl ?_ | refine qv rfl (rr_load1 TyC.ty rfl (at_blk (i := 6) rfl rfl)) rfl rfl ?_ | refine qv rfl (rr_idx1 Und.eq TyC.ty rfl rfl hlt) rfl rfl ?_ | refine qv rfl (rr_load1 TyC.ty rfl (at_rowA (i := 5) rfl hlt)) rfl rfl ?_ | refine qv rfl (rr_idx1 Und.eq TyC.ty rfl rfl c9) rfl rfl ?_ | refine qv rfl (rr_load1 TyC.ty rfl (hbit _ rfl)) rfl rfl ?_ | refine qv rfl (rr_loadB (i := 2) TyC.ty rfl rfl rfl) rfl rfl ?_ | refine qv rfl (qlen Und.eq rfl) rfl rfl ?_ | refine qv rfl (qfld FldC.fld rfl rfl) rfl rfl ?_ | refine qv rfl (rr_not rfl rfl) rfl rfl ?_ | refine qv rfl (rr_lss rfl rfl (qT (by omega))) rfl rfl ?_ | refine qv rfl (rr_lss rfl rfl (qF (by omega))) rfl rfl ?_ | refine qv rfl (rr_neq rfl rfl (qT (by omega))) rfl rfl ?_ | refine qv rfl (rr_neq rfl rfl (qF (by omega))) rfl rfl ?_ | refine qv rfl (rr_add64 rfl rfl (by omega) (by omega) rfl) rfl rfl ?_))
              refine TL_gcall (he5 EntersC.en rfl rfl rfl rfl rfl rfl) (fun w hm => hop O' a w ⟨hm.get (i := 3) rfl, hm.get (i := 4) rfl, hs0.gr hm.below⟩ (bits_of (hm.get (i := 5) rfl) (hm.get (i := 7) rfl)) (by rw [hMl]; exact sl_row (i := 1) rfl w hm) (hfl.gr hm.below) (by omega)) rfl rfl rfl rfl rfl ?_
              intro _ _
              conv => arg 8; simp only [zA, zB, zC, zD, zE, zF, zG, zH, zI, rowS, ret, id_eq]
              cases hopn : opensF (oneF c word) O' Mf word.length a body
              · repeat (first
                  | refine qv rfl (qp rfl) rfl rfl ?_ | refine TL_nil ?_ | refine T_seq ?_ | refine T_region ?_ | refine qcT rfl ?_ | refine qcF rfl ?_ | refine T_skip ?_
                  | refine T_exit ?_ | refine T_ret ?_ | refine T_block ?_ | refine E_then ?_ | refine E_thenX ?_ | refine E_thenR ?_ | refine E_blockN ?_
                  | refine E_blockR ?_ | refine E_blockX ?_ | refine E_blockO rfl ?_ | refine qs rfl rfl rfl rfl rfl rfl ?_
                  | ((try refine qg rfl rfl rfl ?_); first | refine qv rfl (qp rfl) rfl rfl ?_ | refine qv rfl (qlen Und.eq rfl) rfl rfl ?_ | refine qv rfl (qfld FldC.fld rfl rfl) rfl rfl ?_ | refine qv rfl (rr_not rfl rfl) rfl rfl ?_ | refine qv rfl (rr_lss rfl rfl (qT (by omega))) rfl rfl ?_ | refine qv rfl (rr_lss rfl rfl (qF (by omega))) rfl rfl ?_ | refine qv rfl (rr_neq rfl rfl (qT (by omega))) rfl rfl ?_ | refine qv rfl (rr_neq rfl rfl (qF (by omega))) rfl rfl ?_ | refine qv rfl (rr_add64 rfl rfl (by omega) (by omega) rfl) rfl rfl ?_))
                exact E_round (a + 1, O', m2) ⟨by omega, hskip O' m2 a l2 (.inr hopn)⟩ (by show word.length + 1 - (a + 1) < word.length + 1 - a; omega) (by repeat' (first | exact True.intro | refine And.intro rfl ?_)) rfl
              · repeat (first
                  | refine qv rfl (qp rfl) rfl rfl ?_ | refine TL_nil ?_ | refine T_seq ?_ | refine T_region ?_ | refine qcT rfl ?_ | refine qcF rfl ?_ | refine T_skip ?_
                  | refine T_exit ?_ | refine T_ret ?_ | refine T_block ?_ | refine E_then ?_ | refine E_thenX ?_ | refine E_thenR ?_ | refine E_blockN ?_
                  | refine E_blockR ?_ | refine E_blockX ?_ | refine E_blockO rfl ?_ | refine qs rfl rfl rfl rfl rfl rfl ?_
                  | ((try refine qg rfl rfl rfl ?_); first | refine qv rfl (qp rfl) rfl rfl ?_ | refine qv rfl (rr_load1 TyC.ty rfl (at_blk (i := 6) rfl rfl)) rfl rfl ?_ | refine qv rfl (rr_idx1 Und.eq TyC.ty rfl rfl hlt) rfl rfl ?_ | refine qv rfl (rr_load1 TyC.ty rfl (at_rowA (i := 5) rfl hlt)) rfl rfl ?_ | refine qv rfl (rr_idx1 Und.eq TyC.ty rfl rfl c9) rfl rfl ?_ | refine qv rfl (qlen Und.eq rfl) rfl rfl ?_ | refine qv rfl (qfld FldC.fld rfl rfl) rfl rfl ?_ | refine qv rfl (rr_not rfl rfl) rfl rfl ?_ | refine qv rfl (rr_lss rfl rfl (qT (by omega))) rfl rfl ?_ | refine qv rfl (rr_lss rfl rfl (qF (by omega))) rfl rfl ?_ | refine qv rfl (rr_neq rfl rfl (qT (by omega))) rfl rfl ?_ | refine qv rfl (rr_neq rfl rfl (qF (by omega))) rfl rfl ?_ | refine qv rfl (rr_add64 rfl rfl (by omega) (by omega) rfl) rfl rfl ?_))
                refine TL_take (q := 7) hn rfl hlt ?_
                conv => arg 8; simp only [zA, zB, zC, zD, zE, zF, zG, zH, zI, rowS, ret, id_eq]
                refine TL_storeA (i := 8) (v := true) (setB O' hn a hn) TyC.ty rfl rfl rfl rfl rfl c9 (fun j _ => by
                  unfold setB
                  by_cases e : j = a <;> simp [e]) ?_
                conv => arg 8; simp only [zA, zB, zC, zD, zE, zF, zG, zH, zI, rowS, ret, id_eq]
                refine TL_put (D' := fun j => j < k) (f' := fun j => rowA 4 boolV (gs j) (word.length + 1) (setB O' hn a j)) hn 7 8 [0, 1, 2, 3, 4, 5, 6] (by decide) rfl rfl rfl (fun h => h.2 rfl) (fun j hj => by
                  by_cases e : j = hn
                  · exact .inr e
                  · exact .inl ⟨hj, e⟩) (fun j hj => by
                  by_cases e : j = hn
                  · subst e; rw [upd_eq]
                  · rw [upd_ne e]
                    congr 1
                    funext b
                    unfold setB
                    rw [if_neg fun h => e h.1]) ?_
                conv => arg 8; simp only [zA, zB, zC, zD, zE, zF, zG, zH, zI, rowS, ret, id_eq]
                repeat (first
                  | refine qv rfl (qp rfl) rfl rfl ?_ | refine TL_nil ?_ | refine T_seq ?_ | refine T_region ?_ | refine qcT rfl ?_ | refine qcF rfl ?_ | refine T_skip ?_
                  | refine T_exit ?_ | refine T_ret ?_ | refine T_block ?_ | refine E_then ?_ | refine E_thenX ?_ | refine E_thenR ?_ | refine E_blockN ?_
                  | refine E_blockR ?_ | refine E_blockX ?_ | refine E_blockO rfl ?_ | refine qs rfl rfl rfl rfl rfl rfl ?_
                  | ((try refine qg rfl rfl rfl ?_); first | refine qv rfl (qp rfl) rfl rfl ?_ | refine qv rfl (qlen Und.eq rfl) rfl rfl ?_ | refine qv rfl (qfld FldC.fld rfl rfl) rfl rfl ?_ | refine qv rfl (rr_not rfl rfl) rfl rfl ?_ | refine qv rfl (rr_lss rfl rfl (qT (by omega))) rfl rfl ?_ | refine qv rfl (rr_lss rfl rfl (qF (by omega))) rfl rfl ?_ | refine qv rfl (rr_neq rfl rfl (qT (by omega))) rfl rfl ?_ | refine qv rfl (rr_neq rfl rfl (qF (by omega))) rfl rfl ?_ | refine qv rfl (rr_add64 rfl rfl (by omega) (by omega) rfl) rfl rfl ?_))
                exact E_round (a + 1, setB O' hn a, true) ⟨by omega, hset O' m2 a l2 (by omega) hlt hOb hopn⟩ (by show word.length + 1 - (a + 1) < word.length + 1 - a; omega) (by repeat' (first | exact True.intro | refine And.intro rfl ?_)) rfl
            · have hbit : ∀ L : List Own, L[7]? = some (famP (fun j => j < k) fun j => rowA 4 boolV (gs j) (word.length + 1) (O' j)) → At w L ⟨gs hn, 0 + a, none⟩ (.bool true) := by rw [← hOb]; exact hbit0
              repeat (first
                | refine qv rfl (qp rfl) rfl rfl ?_ | refine TL_nil ?_ | refine T_seq ?_ | refine T_region ?_ | refine qcT rfl ?_ | refine qcF rfl ?_ | refine T_skip ?_
                | refine T_exit ?_ | refine T_ret ?_ | refine T_block ?_ | refine E_then ?_ | refine E_thenX ?_ | refine E_thenR ?_ | refine E_blockN ?_
                | refine E_blockR ?_ | refine E_blockX ?_ | refine E_blockO rfl ?_ | refine qs rfl rfl rfl rfl rfl rfl ?_
                | ((try refine qg rfl rfl rfl ?_); first | refine qv rfl (qp rfl) rfl rfl ?_ | refine qv rfl (rr_load1 TyC.ty rfl (at_blk (i := 6) rfl rfl)) rfl rfl ?_ | refine qv rfl (rr_idx1 Und.eq TyC.ty rfl rfl hlt) rfl rfl ?_ | refine qv rfl (rr_load1 TyC.ty rfl (at_rowA (i := 5) rfl hlt)) rfl rfl ?_ | refine qv rfl (rr_idx1 Und.eq TyC.ty rfl rfl c9) rfl rfl ?_ | refine qv rfl (rr_load1 TyC.ty rfl (hbit _ rfl)) rfl rfl ?_ | refine qv rfl (qlen Und.eq rfl) rfl rfl ?_ | refine qv rfl (qfld FldC.fld rfl rfl) rfl rfl ?_ | refine qv rfl (rr_not rfl rfl) rfl rfl ?_ | refine qv rfl (rr_lss rfl rfl (qT (by omega))) rfl rfl ?_ | refine qv rfl (rr_lss rfl rfl (qF (by omega))) rfl rfl ?_ | refine qv rfl (rr_neq rfl rfl (qT (by omega))) rfl rfl ?_ | refine qv rfl (rr_neq rfl rfl (qF (by omega))) rfl rfl ?_ | refine qv rfl (rr_add64 rfl rfl (by omega) (by omega) rfl) rfl rfl ?_))
              exact E_round (a + 1, O', m2) ⟨by omega, hskip O' m2 a l2 (.inl hOb)⟩ (by show word.length + 1 - (a + 1) < word.length + 1 - a; omega) (by repeat' (first | exact True.intro | refine And.intro rfl ?_)) rfl
          · obtain rfl : a = word.length + 1 := by omega
            repeat (first
              | refine qv rfl (qp rfl) rfl rfl ?_ | refine TL_nil ?_ | refine T_seq ?_ | refine T_region ?_ | refine qcT rfl ?_ | refine qcF rfl ?_ | refine T_skip ?_
              | refine T_exit ?_ | refine T_ret ?_ | refine T_block ?_ | refine E_then ?_ | refine E_thenX ?_ | refine E_thenR ?_ | refine E_blockN ?_
              | refine E_blockR ?_ | refine E_blockX ?_ | refine E_blockO rfl ?_ | refine qs rfl rfl rfl rfl rfl rfl ?_
              | ((try refine qg rfl rfl rfl ?_); first | refine qv rfl (qp rfl) rfl rfl ?_ | refine qv rfl (qlen Und.eq rfl) rfl rfl ?_ | refine qv rfl (qfld FldC.fld rfl rfl) rfl rfl ?_ | refine qv rfl (rr_not rfl rfl) rfl rfl ?_ | refine qv rfl (rr_lss rfl rfl (qT (by omega))) rfl rfl ?_ | refine qv rfl (rr_lss rfl rfl (qF (by omega))) rfl rfl ?_ | refine qv rfl (rr_neq rfl rfl (qT (by omega))) rfl rfl ?_ | refine qv rfl (rr_neq rfl rfl (qF (by omega))) rfl rfl ?_ | refine qv rfl (rr_add64 rfl rfl (by omega) (by omega) rfl) rfl rfl ?_))
            refine E_pick [0, 1, 2, 3, 4, 5, 7] (by decide) rfl ?_
            exact E_round (i + 1, O', m2) ⟨by omega, l2.next⟩ (by show prods.length - (i + 1) < prods.length - i; omega) (by repeat' (first | exact True.intro | refine And.intro rfl ?_)) rfl
        · obtain rfl : i = prods.length := by omega
          repeat (first
            | refine qv rfl (qp rfl) rfl rfl ?_ | refine TL_nil ?_ | refine T_seq ?_ | refine T_region ?_ | refine qcT rfl ?_ | refine qcF rfl ?_ | refine T_skip ?_
            | refine T_exit ?_ | refine T_ret ?_ | refine T_block ?_ | refine E_then ?_ | refine E_thenX ?_ | refine E_thenR ?_ | refine E_blockN ?_
            | refine E_blockR ?_ | refine E_blockX ?_ | refine E_blockO rfl ?_ | refine qs rfl rfl rfl rfl rfl rfl ?_
            | ((try refine qg rfl rfl rfl ?_); first | refine qv rfl (qp rfl) rfl rfl ?_ | refine qv rfl (qlen Und.eq rfl) rfl rfl ?_ | refine qv rfl (qfld FldC.fld rfl rfl) rfl rfl ?_ | refine qv rfl (rr_not rfl rfl) rfl rfl ?_ | refine qv rfl (rr_lss rfl rfl (qT (by omega))) rfl rfl ?_ | refine qv rfl (rr_lss rfl rfl (qF (by omega))) rfl rfl ?_ | refine qv rfl (rr_neq rfl rfl (qT (by omega))) rfl rfl ?_ | refine qv rfl (rr_neq rfl rfl (qF (by omega))) rfl rfl ?_ | refine qv rfl (rr_add64 rfl rfl (by omega) (by omega) rfl) rfl rfl ?_))
          cases hm2 : m2
          · exact E_round (O', false) ⟨j2.sound, fun _ => hbg2 O O' k (by rw [← hm2]; exact j2)⟩ (by dsimp only; rw [(j2.still hm2).1]; simp) (by repeat' (first | exact True.intro | refine And.intro rfl ?_)) rfl
          · have := j2.less hm2
            exact E_round (O', true) ⟨j2.sound, fun h => by cases h⟩ (by dsimp only; simp; omega) (by repeat' (first | exact True.intro | refine And.intro rfl ?_)) rfl
  · have hb : beginsB g word = false := by
      cases hb : beginsB g word
      · rfl
      · exact absurd (begins_iff.1 hb).1 c0
    rw [hb]
    obtain ⟨vp, rfl, h1, _⟩ := h
    obtain ⟨bw, cw, rfl, _⟩ := hs
    generalize checkC g word = e at *
    obtain ⟨t, n, prods⟩ := g
    dsimp only at *
    refine enter (args := [graV t n vp, .slice bw word.length cw]) (n := 93) Try.func55 rfl rfl rfl ?_
    refine T_seq (T_region (TL_box rfl rfl rfl fun g2 => ?_))
    conv => arg 8; simp only [zA, zB, zC, zD, zE, zF, zG, zH, zI, rowS, ret, id_eq]
    repeat (first
      | refine qv rfl (qp rfl) rfl rfl ?_ | refine TL_nil ?_ | refine T_seq ?_ | refine T_region ?_ | refine qcT rfl ?_ | refine qcF rfl ?_ | refine T_skip ?_
      | refine T_exit ?_ | refine T_ret ?_ | refine T_block ?_ | refine E_then ?_ | refine E_thenX ?_ | refine E_thenR ?_ | refine E_blockN ?_
      | refine E_blockR ?_ | refine E_blockX ?_ | refine E_blockO rfl ?_ | refine qs rfl rfl rfl rfl rfl rfl ?_
      | ((try refine qg rfl rfl rfl ?_); first | refine qv rfl (qp rfl) rfl rfl ?_ | refine qv rfl (rr_loadB (i := 0) TyC.ty rfl rfl rfl) rfl rfl ?_ | refine qv rfl (qlen Und.eq rfl) rfl rfl ?_ | refine qv rfl (qfld FldC.fld rfl rfl) rfl rfl ?_ | refine qv rfl (rr_not rfl rfl) rfl rfl ?_ | refine qv rfl (rr_lss rfl rfl (qT (by omega))) rfl rfl ?_ | refine qv rfl (rr_lss rfl rfl (qF (by omega))) rfl rfl ?_ | refine qv rfl (rr_neq rfl rfl (qT (by omega))) rfl rfl ?_ | refine qv rfl (rr_neq rfl rfl (qF (by omega))) rfl rfl ?_ | refine qv rfl (rr_add64 rfl rfl (by omega) (by omega) rfl) rfl rfl ?_))
    refine TL_call (he2 EntersC.en rfl rfl rfl) (fun w hm => hck _ hm.below) rfl rfl rfl ?_
    intro _ _
    conv => arg 8; simp only [zA, zB, zC, zD, zE, zF, zG, zH, zI, rowS, ret, id_eq]
    repeat (first
      | refine qv rfl (qp rfl) rfl rfl ?_ | refine TL_nil ?_ | refine T_seq ?_ | refine T_region ?_ | refine qcT rfl ?_ | refine qcF rfl ?_ | refine T_skip ?_
      | refine T_exit ?_ | refine T_ret ?_ | refine T_block ?_ | refine E_then ?_ | refine E_thenX ?_ | refine E_thenR ?_ | refine E_blockN ?_
      | refine E_blockR ?_ | refine E_blockX ?_ | refine E_blockO rfl ?_ | refine qs rfl rfl rfl rfl rfl rfl ?_
      | ((try refine qg rfl rfl rfl ?_); first | refine qv rfl (qp rfl) rfl rfl ?_ | refine qv rfl (qlen Und.eq rfl) rfl rfl ?_ | refine qv rfl (qfld FldC.fld rfl rfl) rfl rfl ?_ | refine qv rfl (rr_not rfl rfl) rfl rfl ?_ | refine qv rfl (rr_lss rfl rfl (qT (by omega))) rfl rfl ?_ | refine qv rfl (rr_lss rfl rfl (qF (by omega))) rfl rfl ?_ | refine qv rfl (rr_neq rfl rfl (qT (by omega))) rfl rfl ?_ | refine qv rfl (rr_neq rfl rfl (qF (by omega))) rfl rfl ?_ | refine qv rfl (rr_add64 rfl rfl (by omega) (by omega) rfl) rfl rfl ?_))
    exact E_ret2 rfl rfl rfl fun w hm => hm.ret
end Go.Proofs.Ytnicebdkejkieaa.eng
