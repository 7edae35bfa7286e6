/- What facts.round computes. -/
import Derived.Test.YtnicebdkejkieaaFactsB
namespace Go.Proofs.Ytnicebdkejkieaa.eng
open Go.RowKit kit mix gramL factsL
abbrev rowB (g c : Nat) (l : List Bool) : Own := rowO 4 1 (.slice (some ⟨g, 0, none⟩) l.length c) l.length (l.map .bool)
/-- a row of bools of a given number -/
def rowBn (n g c : Nat) (l : List Bool) : Own := rowO 4 1 (.slice (some ⟨g, 0, none⟩) n c) n (l.map .bool)
theorem rowB_eq {n g c : Nat} {l : List Bool} (h : l.length = n) : rowBn n g c l = rowB g c l := by subst h; rfl
theorem mark2_calls (n g cap : Nat) (l : List Bool) (i : Nat) (b : Bool) (w : World) (B : Base) (hl : l.length = n) (hi : i < n) (hm : Mem B [rowBn n g cap l] w) :
    Calls Try.prog 85 #[.slice (some ⟨g, 0, none⟩) n cap, .int .i64 (i : Int), .bool b] w (MeetsB ⟨fun (_ : Unit) => True, fun _ => .bool (markF l i b).2, fun _ => [rowBn n g cap (markF l i b).1]⟩ B) := by
  subst hl
  exact mark_calls g cap l i b w B hi hm
structure Rows3 where
  gE : Nat
  cE : Nat
  gR : Nat
  cR : Nat
  gM : Nat
  cM : Nat
def vRow (n g c : Nat) : Value := .slice (some ⟨g, 0, none⟩) n c
theorem roundR_cons (h : Nat) (x : Sym) (r : List Sym) (R : List Bool) (more : Bool) : roundR h (x :: r) R more = roundR h r (stepR h x R more).1 (stepR h x R more).2 := rfl
theorem roundL_cons (p : gramL.Prod) (r : List gramL.Prod) (s : FS) : roundL (p :: r) s = roundL r (roundP p s) := rfl
set_option maxHeartbeats 8000000 in
theorem round_calls (w0 : World) (v : Value) (g : Gram) (h : GraR (fun k => k < w0.heap.size) w0 v g) (hck : checkG g = 0) (n : Nat) (hn : g.nons = n) (x : Rows3) (vF vL : Value) (E R M : List Bool) (hE : E.length = n) (hR : R.length = n) (hM : M.length = n) (w : World) (B : Base) (ho : Old w0 B) (hm : Mem B [rowBn n x.gE x.cE E, rowBn n x.gR x.cR R, rowBn n x.gM x.cM M] w) :
    Calls Try.prog 69 #[v, facV (vRow n x.gE x.cE) vF vL (vRow n x.gR x.cR) (vRow n x.gM x.cM)] w (MeetsB ⟨fun (_ : Unit) => True, fun _ => .bool (roundL g.prods ⟨E, R, M, false⟩).more, fun _ => [rowBn n x.gE x.cE (roundL g.prods ⟨E, R, M, false⟩).E, rowBn n x.gR x.cR (roundL g.prods ⟨E, R, M, false⟩).R, rowBn n x.gM x.cM (roundL g.prods ⟨E, R, M, false⟩).M]⟩ B) := by
  obtain ⟨gE, cE, gR, cR, gM, cM⟩ := x
  dsimp only at *
  obtain ⟨_, _, _, _, hlen, hps⟩ := checkG_ok hck
  obtain ⟨vp, rfl, h1, _⟩ := h
  obtain ⟨bp, cp, rfl, hcp, hmp, hrp⟩ := h1
  unfold maxLen at hmp
  obtain ⟨t, nn, prods⟩ := g
  dsimp only at *
  subst hn
  refine enterB hm (args := [graV t (n : Int) (.slice bp prods.length cp), facV (vRow n gE cE) vF vL (vRow n gR cR) (vRow n gM cM)]) (n := 70) Try.func69 rfl rfl rfl ?_
  refine T_seq (T_region (TL_box rfl rfl rfl fun g2 => TL_box rfl rfl rfl fun g3 => ?_))
  conv => arg 8; simp only [zA, zB, zC, zD, zE, zF, zG, zH, zI, rowS, ret, id_eq]
  repeat (first
    | refine qv rfl (qp rfl) rfl rfl ?_ | refine TL_nil ?_ | refine T_seq ?_ | refine T_region ?_ | refine qcT rfl ?_ | refine qcF rfl ?_ | refine T_skip ?_
    | refine T_exit ?_ | refine T_ret ?_ | refine T_block ?_ | refine E_then ?_ | refine E_thenX ?_ | refine E_thenR ?_ | refine E_blockN ?_
    | refine E_blockR ?_ | refine E_blockX ?_ | refine E_blockO rfl ?_ | refine qs rfl rfl rfl rfl rfl rfl ?_
    | ((try refine qg rfl rfl rfl ?_); first | refine qv rfl (qp rfl) rfl rfl ?_ | refine qv rfl (rr_load1 TyC.ty rfl (at_blk (i := 3) rfl rfl)) rfl rfl ?_ | refine qv rfl (qlen Und.eq rfl) rfl rfl ?_ | refine qv rfl (qfld FldC.fld rfl rfl) rfl rfl ?_ | refine qv rfl (rr_lss rfl rfl (qT (by omega))) rfl rfl ?_ | refine qv rfl (rr_lss rfl rfl (qF (by omega))) rfl rfl ?_ | refine qv rfl (rr_eql rfl rfl (qT (by omega))) rfl rfl ?_ | refine qv rfl (rr_eql rfl rfl (qF (by omega))) rfl rfl ?_ | refine qv rfl (rr_add64 rfl rfl (by omega) (by omega) rfl) rfl rfl ?_))
  refine T_pick [0, 1, 2, 4] (by decide) rfl ?_
  generalize hfin : roundL prods ⟨E, R, M, false⟩ = fin
  refine T_loop (ι := Nat × FS) (fun (k, s) => k ≤ prods.length ∧ s.E.length = n ∧ s.R.length = n ∧ s.M.length = n ∧ roundL (prods.drop k) s = fin) (fun (k, s) => [(3, .pointer (some ⟨g3, 0, none⟩)), (5, .bool s.more), (11, .slice bp prods.length cp), (12, .int .i64 prods.length), (13, .int .i64 (k : Int))])
    (fun (_, s) => [rowBn n gE cE s.E, rowBn n gR cR s.R, rowBn n gM cM s.M, blkO g3 (facV (vRow n gE cE) vF vL (vRow n gR cR) (vRow n gM cM)).cells 63]) (fun (k, _) => prods.length - k) (0, ⟨E, R, M, false⟩) ⟨Nat.zero_le _, hE, hR, hM, hfin⟩ (by repeat' (first | exact True.intro | refine And.intro rfl ?_)) rfl ?_
  clear hm hE hR hM hfin
  rintro ⟨k, E, R, M, more⟩ ⟨i1, i2, i3, i4, i5⟩
  dsimp only at i1 i2 i3 i4 i5 ⊢
  by_cases c6 : k < prods.length
  · obtain ⟨b, off, rfl, _, hr⟩ := hrp (by omega)
    obtain ⟨bb, cb, q1, q2, q3⟩ := prod_at hr c6
    have hpk := hps prods[k] (List.getElem_mem c6)
    rw [List.drop_eq_getElem_cons c6, roundL_cons] at i5
    have hat : ∀ (L : List Own) (j : Nat) (v : Value), ([.int .i64 prods[k].1, .slice bb prods[k].2.length cb] : List Value)[j]? = some v → At B L ⟨b, off + k * 2 + j, none⟩ v := fun L j v hj => at_old0 ho (q1 j v hj)
    have hfl := q3.flat (by decide)
    clear hr hrp q1 hps q3
    generalize prods[k] = p at *
    obtain ⟨hd, body⟩ := p
    obtain ⟨p1, p2, p3, p4⟩ := hpk
    dsimp only at *
    obtain ⟨hn, rfl⟩ : ∃ hn : Nat, hd = hn := ⟨hd.toNat, by omega⟩
    have hhn : hn < n := by omega
    have hbody : ∀ x ∈ body, x.1 = 2 → 0 ≤ x.2 ∧ x.2 < (n : Int) := fun x hx hx2 => by
      have := p4 x hx
      unfold right at this
      rw [if_neg (by omega), if_pos hx2] at this
      simpa using this
    have hsb : ∀ w' L, Mem B L w' → Sl w' (.slice bb body.length cb) body.length (body.flatMap symC) := fun w' L hm => hfl.gr (ho.mem hm)
    unfold roundP at i5
    dsimp only at i5
    rw [Int.toNat_natCast] at i5
    have hall1 := fun w' L (hm : Mem B L w') (hx : Sl w' (vRow n gE cE) E.length (E.map .bool)) => allB_calls (vRow n gE cE) (.slice bb body.length cb) E body false w' hx (hsb w' L hm) (fun x hx hx2 => by rw [i2]; exact hbody x hx hx2)
    have hall2 := fun w' L (hm : Mem B L w') (hx : Sl w' (vRow n gM cM) M.length (M.map .bool)) => allB_calls (vRow n gM cM) (.slice bb body.length cb) M body true w' hx (hsb w' L hm) (fun x hx hx2 => by rw [i4]; exact hbody x hx hx2)
    generalize allF E body false = a1 at *
    generalize allF M body true = a2 at *
    have hmk1 := fun w' B' hm => mark2_calls n gE cE E hn a1 w' B' i2 hhn hm
    have hmk2 := fun w' B' hm => mark2_calls n gM cM M hn a2 w' B' i4 hhn hm
    have hl1 := markF_len E hn a1
    have hl2 := markF_len M hn a2
    rw [i2] at hl1 hall1
    rw [i4] at hl2 hall2
    generalize markF E hn a1 = m1 at *
    generalize markF M hn a2 = m2 at *
    obtain ⟨E1, b1⟩ := m1
    obtain ⟨M1, b2⟩ := m2
    dsimp only at *
    repeat (first
      | refine qv rfl (qp rfl) rfl rfl ?_ | refine TL_nil ?_ | refine T_seq ?_ | refine T_region ?_ | refine qcT rfl ?_ | refine qcF rfl ?_ | refine T_skip ?_
      | refine T_exit ?_ | refine T_ret ?_ | refine T_block ?_ | refine E_then ?_ | refine E_thenX ?_ | refine E_thenR ?_ | refine E_blockN ?_
      | refine E_blockR ?_ | refine E_blockX ?_ | refine E_blockO rfl ?_ | refine qs rfl rfl rfl rfl rfl rfl ?_
      | ((try refine qg rfl rfl rfl ?_); first | refine qv rfl (qp rfl) rfl rfl ?_ | refine qv rfl (rr_idxc Und.eq TyC.ty rfl rfl c6) rfl rfl ?_ | refine qv rfl (rr_loadN TyC.ty rfl rfl (hat _)) rfl rfl ?_ | refine qv rfl (qlen Und.eq rfl) rfl rfl ?_ | refine qv rfl (qfld FldC.fld rfl rfl) rfl rfl ?_ | refine qv rfl (rr_lss rfl rfl (qT (by omega))) rfl rfl ?_ | refine qv rfl (rr_lss rfl rfl (qF (by omega))) rfl rfl ?_ | refine qv rfl (rr_eql rfl rfl (qT (by omega))) rfl rfl ?_ | refine qv rfl (rr_eql rfl rfl (qF (by omega))) rfl rfl ?_ | refine qv rfl (rr_add64 rfl rfl (by omega) (by omega) rfl) rfl rfl ?_))
    clear hat
    refine TL_new rfl fun g7 => ?_
    refine TL_storeB (i := 4) rfl rfl rfl rfl rfl rfl ?_
    conv => arg 8; simp only [zA, zB, zC, zD, zE, zF, zG, zH, zI, rowS, ret, id_eq]
    repeat (first
      | refine qv rfl (qp rfl) rfl rfl ?_ | refine TL_nil ?_ | refine E_then ?_ | refine qs rfl rfl rfl rfl rfl rfl ?_
      | ((try refine qg rfl rfl rfl ?_); first | refine qv rfl (qp rfl) rfl rfl ?_ | refine qv rfl (qlen Und.eq rfl) rfl rfl ?_ | refine qv rfl (qfld FldC.fld rfl rfl) rfl rfl ?_ | refine qv rfl (rr_lss rfl rfl (qT (by omega))) rfl rfl ?_ | refine qv rfl (rr_lss rfl rfl (qF (by omega))) rfl rfl ?_ | refine qv rfl (rr_eql rfl rfl (qT (by omega))) rfl rfl ?_ | refine qv rfl (rr_eql rfl rfl (qF (by omega))) rfl rfl ?_ | refine qv rfl (rr_add64 rfl rfl (by omega) (by omega) rfl) rfl rfl ?_))
    (repeat refine T_seq ?_)
    refine T_midq (ι := Unit) (fun _ => True) (fun _ => [(3, .pointer (some ⟨g3, 0, none⟩)), (5, .bool (b1 || more)), (7, .pointer (some ⟨g7, 0, none⟩)), (11, .slice (some ⟨b, off, none⟩) prods.length cp), (12, .int .i64 prods.length), (13, .int .i64 (k : Int))])
      (fun _ => [rowBn n gE cE E1, rowBn n gR cR R, rowBn n gM cM M, blkO g3 (facV (vRow n gE cE) vF vL (vRow n gR cR) (vRow n gM cM)).cells 63, blkO g7 #[.int .i64 (hn : Int), .slice bb body.length cb] 36]) ?_ ?_
    · refine T_ord ([blkO g3 (facV (vRow n gE cE) vF vL (vRow n gR cR) (vRow n gM cM)).cells 63, blkO g7 #[.int .i64 (hn : Int), .slice bb body.length cb] 36]) (.calm 0 (.calm 1 (.calm 2 (.calm 3 (.calm 4 (.calm 5 (.calm 6 (.calm 7 (.one 8 (.one 9 (.calm 10 (.calm 11 (.calm 12 (.calm 13 (.done))))))))))))))) (sub_pick [3, 4] (by decide) rfl) (by kernel_rfl) (by kernel_rfl) (by intro c a d v w h; cases d <;> exact h) ?_
      repeat (first
        | ((first | refine TW_plain rfl rfl ?_ | refine TW_gmet rfl rfl rfl rfl ?_); first | refine TN_val (qp rfl) rfl rfl ?_ | refine TN_val (rr_load1 TyC.ty rfl (at_blk (i := 0) rfl rfl)) rfl rfl ?_ | refine TN_val (rr_load1 TyC.ty rfl (at_blk (i := 1) rfl rfl)) rfl rfl ?_ | refine TN_val (qlen Und.eq rfl) rfl rfl ?_ | refine TN_val (qfld FldC.fld rfl rfl) rfl rfl ?_ | refine TN_val (rr_lss rfl rfl (qT (by omega))) rfl rfl ?_ | refine TN_val (rr_lss rfl rfl (qF (by omega))) rfl rfl ?_ | refine TN_val (rr_eql rfl rfl (qT (by omega))) rfl rfl ?_ | refine TN_val (rr_eql rfl rfl (qF (by omega))) rfl rfl ?_ | refine TN_val (rr_add64 rfl rfl (by omega) (by omega) rfl) rfl rfl ?_)
        | refine TW_skip rfl rfl rfl rfl rfl rfl rfl ?_ | refine TW_done ?_)
      refine TW_one rfl ?_
      refine TL_call (he3 EntersC.en rfl rfl rfl rfl) (fun w hm => hall1 _ _ hm (sl_row (i := 0) rfl w hm)) rfl rfl rfl ?_
      intro _ _
      conv => arg 8; simp only [zA, zB, zC, zD, zE, zF, zG, zH, zI, rowS, ret, id_eq]
      refine TW_on (sub_pick [3, 4] (by decide) rfl) ?_
      refine TW_one rfl ?_
      refine TL_callB [0] [1, 2, 3, 4] (by decide) rfl rfl (he3 EntersC.en rfl rfl rfl rfl) (fun w hm hb => hmk1 w _ hb) rfl rfl rfl ?_
      intro _ _
      conv => arg 8; simp only [zA, zB, zC, zD, zE, zF, zG, zH, zI, rowS, ret, id_eq]
      refine TW_on (sub_pick [2, 3] (by decide) rfl) ?_
      cases b1
      · repeat (first
          | ((first | refine TW_plain rfl rfl ?_ | refine TW_gmet rfl rfl rfl rfl ?_); first | refine TN_val (qp rfl) rfl rfl ?_ | refine TN_val (qlen Und.eq rfl) rfl rfl ?_ | refine TN_val (qfld FldC.fld rfl rfl) rfl rfl ?_ | refine TN_val (rr_lss rfl rfl (qT (by omega))) rfl rfl ?_ | refine TN_val (rr_lss rfl rfl (qF (by omega))) rfl rfl ?_ | refine TN_val (rr_eql rfl rfl (qT (by omega))) rfl rfl ?_ | refine TN_val (rr_eql rfl rfl (qF (by omega))) rfl rfl ?_ | refine TN_val (rr_add64 rfl rfl (by omega) (by omega) rfl) rfl rfl ?_)
          | refine TW_skip rfl rfl rfl rfl rfl rfl rfl ?_ | refine TW_done ?_)
        refine E_pick [4, 0, 1, 2, 3] (by decide) rfl ?_
        exact E_mid () trivial (by repeat' (first | exact True.intro | refine And.intro rfl ?_)) rfl
      · repeat (first
          | ((first | refine TW_plain rfl rfl ?_ | refine TW_gmet rfl rfl rfl rfl ?_); first | refine TN_val (qp rfl) rfl rfl ?_ | refine TN_val (qlen Und.eq rfl) rfl rfl ?_ | refine TN_val (qfld FldC.fld rfl rfl) rfl rfl ?_ | refine TN_val (rr_lss rfl rfl (qT (by omega))) rfl rfl ?_ | refine TN_val (rr_lss rfl rfl (qF (by omega))) rfl rfl ?_ | refine TN_val (rr_eql rfl rfl (qT (by omega))) rfl rfl ?_ | refine TN_val (rr_eql rfl rfl (qF (by omega))) rfl rfl ?_ | refine TN_val (rr_add64 rfl rfl (by omega) (by omega) rfl) rfl rfl ?_)
          | refine TW_skip rfl rfl rfl rfl rfl rfl rfl ?_ | refine TW_done ?_)
        refine E_pick [4, 0, 1, 2, 3] (by decide) rfl ?_
        exact E_mid () trivial (by repeat' (first | exact True.intro | refine And.intro rfl ?_)) rfl
    intro _ _
    (repeat refine T_seq ?_)
    refine T_midq (ι := Unit) (fun _ => True) (fun _ => [(3, .pointer (some ⟨g3, 0, none⟩)), (5, .bool (b2 || (b1 || more))), (7, .pointer (some ⟨g7, 0, none⟩)), (11, (.slice (some ⟨b, off, none⟩) prods.length cp)), (12, .int .i64 prods.length), (13, .int .i64 (k : Int))])
      (fun _ => [rowBn n gE cE E1, rowBn n gR cR R, rowBn n gM cM M1, blkO g3 (facV (vRow n gE cE) vF vL (vRow n gR cR) (vRow n gM cM)).cells 63, blkO g7 #[.int .i64 (hn : Int), .slice bb body.length cb] 36]) ?_ ?_
    · refine T_ord ([blkO g3 (facV (vRow n gE cE) vF vL (vRow n gR cR) (vRow n gM cM)).cells 63, blkO g7 #[.int .i64 (hn : Int), .slice bb body.length cb] 36]) (.calm 0 (.calm 1 (.calm 2 (.calm 3 (.calm 4 (.calm 5 (.calm 6 (.calm 7 (.one 8 (.one 9 (.calm 10 (.calm 11 (.calm 12 (.calm 13 (.done))))))))))))))) (sub_pick [3, 4] (by decide) rfl) (by kernel_rfl) (by kernel_rfl) (by intro c a d v w h; cases d <;> exact h) ?_
      repeat (first
        | ((first | refine TW_plain rfl rfl ?_ | refine TW_gmet rfl rfl rfl rfl ?_); first | refine TN_val (qp rfl) rfl rfl ?_ | refine TN_val (rr_load1 TyC.ty rfl (at_blk (i := 0) rfl rfl)) rfl rfl ?_ | refine TN_val (rr_load1 TyC.ty rfl (at_blk (i := 1) rfl rfl)) rfl rfl ?_ | refine TN_val (qlen Und.eq rfl) rfl rfl ?_ | refine TN_val (qfld FldC.fld rfl rfl) rfl rfl ?_ | refine TN_val (rr_lss rfl rfl (qT (by omega))) rfl rfl ?_ | refine TN_val (rr_lss rfl rfl (qF (by omega))) rfl rfl ?_ | refine TN_val (rr_eql rfl rfl (qT (by omega))) rfl rfl ?_ | refine TN_val (rr_eql rfl rfl (qF (by omega))) rfl rfl ?_ | refine TN_val (rr_add64 rfl rfl (by omega) (by omega) rfl) rfl rfl ?_)
        | refine TW_skip rfl rfl rfl rfl rfl rfl rfl ?_ | refine TW_done ?_)
      refine TW_one rfl ?_
      refine TL_call (he3 EntersC.en rfl rfl rfl rfl) (fun w hm => hall2 _ _ hm (sl_row (i := 2) rfl w hm)) rfl rfl rfl ?_
      intro _ _
      conv => arg 8; simp only [zA, zB, zC, zD, zE, zF, zG, zH, zI, rowS, ret, id_eq]
      refine TW_on (sub_pick [3, 4] (by decide) rfl) ?_
      refine TW_one rfl ?_
      refine TL_callB [2] [0, 1, 3, 4] (by decide) rfl rfl (he3 EntersC.en rfl rfl rfl rfl) (fun w hm hb => hmk2 w _ hb) rfl rfl rfl ?_
      intro _ _
      conv => arg 8; simp only [zA, zB, zC, zD, zE, zF, zG, zH, zI, rowS, ret, id_eq]
      refine TW_on (sub_pick [2, 3] (by decide) rfl) ?_
      generalize (b1 || more) = mo
      cases b2
      · repeat (first
          | ((first | refine TW_plain rfl rfl ?_ | refine TW_gmet rfl rfl rfl rfl ?_); first | refine TN_val (qp rfl) rfl rfl ?_ | refine TN_val (qlen Und.eq rfl) rfl rfl ?_ | refine TN_val (qfld FldC.fld rfl rfl) rfl rfl ?_ | refine TN_val (rr_lss rfl rfl (qT (by omega))) rfl rfl ?_ | refine TN_val (rr_lss rfl rfl (qF (by omega))) rfl rfl ?_ | refine TN_val (rr_eql rfl rfl (qT (by omega))) rfl rfl ?_ | refine TN_val (rr_eql rfl rfl (qF (by omega))) rfl rfl ?_ | refine TN_val (rr_add64 rfl rfl (by omega) (by omega) rfl) rfl rfl ?_)
          | refine TW_skip rfl rfl rfl rfl rfl rfl rfl ?_ | refine TW_done ?_)
        refine E_pick [0, 1, 4, 2, 3] (by decide) rfl ?_
        exact E_mid () trivial (by repeat' (first | exact True.intro | refine And.intro rfl ?_)) rfl
      · repeat (first
          | ((first | refine TW_plain rfl rfl ?_ | refine TW_gmet rfl rfl rfl rfl ?_); first | refine TN_val (qp rfl) rfl rfl ?_ | refine TN_val (qlen Und.eq rfl) rfl rfl ?_ | refine TN_val (qfld FldC.fld rfl rfl) rfl rfl ?_ | refine TN_val (rr_lss rfl rfl (qT (by omega))) rfl rfl ?_ | refine TN_val (rr_lss rfl rfl (qF (by omega))) rfl rfl ?_ | refine TN_val (rr_eql rfl rfl (qT (by omega))) rfl rfl ?_ | refine TN_val (rr_eql rfl rfl (qF (by omega))) rfl rfl ?_ | refine TN_val (rr_add64 rfl rfl (by omega) (by omega) rfl) rfl rfl ?_)
          | refine TW_skip rfl rfl rfl rfl rfl rfl rfl ?_ | refine TW_done ?_)
        refine E_pick [0, 1, 4, 2, 3] (by decide) rfl ?_
        exact E_mid () trivial (by repeat' (first | exact True.intro | refine And.intro rfl ?_)) rfl
    intro _ _
    generalize (b2 || (b1 || more)) = mo at *
    clear hmk1 hmk2 hall1 hall2
    repeat (first
      | refine qv rfl (qp rfl) rfl rfl ?_ | refine TL_nil ?_ | refine T_seq ?_ | refine T_region ?_ | refine qcT rfl ?_ | refine qcF rfl ?_ | refine T_skip ?_
      | refine T_exit ?_ | refine T_ret ?_ | refine T_block ?_ | refine E_then ?_ | refine E_thenX ?_ | refine E_thenR ?_ | refine E_blockN ?_
      | refine E_blockR ?_ | refine E_blockX ?_ | refine E_blockO rfl ?_ | refine qs rfl rfl rfl rfl rfl rfl ?_
      | ((try refine qg rfl rfl rfl ?_); first | refine qv rfl (qp rfl) rfl rfl ?_ | refine qv rfl (rr_load1 TyC.ty rfl (at_blk (i := 4) rfl rfl)) rfl rfl ?_ | refine qv rfl (qlen Und.eq rfl) rfl rfl ?_ | refine qv rfl (qfld FldC.fld rfl rfl) rfl rfl ?_ | refine qv rfl (rr_lss rfl rfl (qT (by omega))) rfl rfl ?_ | refine qv rfl (rr_lss rfl rfl (qF (by omega))) rfl rfl ?_ | refine qv rfl (rr_eql rfl rfl (qT (by omega))) rfl rfl ?_ | refine qv rfl (rr_eql rfl rfl (qF (by omega))) rfl rfl ?_ | refine qv rfl (rr_add64 rfl rfl (by omega) (by omega) rfl) rfl rfl ?_))
    generalize hfr : roundR hn body R mo = fr at *
    obtain ⟨R2, mo2⟩ := fr
    dsimp only at i5
    refine T_loop (ι := Nat × List Bool × Bool) (fun (j, R', m') => j ≤ body.length ∧ R'.length = n ∧ roundR hn (body.drop j) R' m' = (R2, mo2)) (fun (j, _, m') => [(3, .pointer (some ⟨g3, 0, none⟩)), (5, .bool m'), (7, .pointer (some ⟨g7, 0, none⟩)), (11, (.slice (some ⟨b, off, none⟩) prods.length cp)), (12, .int .i64 prods.length), (13, .int .i64 (k : Int)), (44, .slice bb body.length cb), (45, .int .i64 body.length), (46, .int .i64 (j : Int))])
      (fun (_, R', _) => [rowBn n gE cE E1, rowBn n gR cR R', rowBn n gM cM M1, blkO g3 (facV (vRow n gE cE) vF vL (vRow n gR cR) (vRow n gM cM)).cells 63, blkO g7 #[.int .i64 (hn : Int), .slice bb body.length cb] 36]) (fun (j, _, _) => body.length - j) (0, R, mo) ⟨Nat.zero_le _, i3, hfr⟩ (by repeat' (first | exact True.intro | refine And.intro rfl ?_)) rfl ?_
    clear hfr
    rintro ⟨j, R', m'⟩ ⟨j1, j2, j3⟩
    dsimp only at j1 j2 j3 ⊢
    by_cases c7 : j < body.length
    · obtain ⟨b', off', rfl, hrb⟩ := (by
        obtain ⟨bs, cs, hv, _, _, hrd⟩ := hfl
        simp only [Value.slice.injEq, true_and] at hv
        obtain ⟨rfl, rfl⟩ := hv
        exact hrd (by omega) : ∃ b' off', bb = some ⟨b', off', none⟩ ∧ Rd w0 b' off' (body.flatMap symC))
      have hatx : ∀ (L : List Own) (q : Nat) (u : Value), (symC body[j])[q]? = some u → At B L ⟨b', off' + j * 2 + q, none⟩ u := fun L => at_elL SymS_len (fun q u hq => at_old0 ho (hrb q u hq)) c7
      have hx2 := hbody body[j] (List.getElem_mem c7)
      rw [List.drop_eq_getElem_cons c7, roundR_cons] at j3
      clear hbody hrb hfl hsb p4
      generalize body[j] = x at *
      obtain ⟨q, m⟩ := x
      dsimp only at hx2
      unfold stepR at j3
      dsimp only at j3
      by_cases c8 : q = 2
      · subst c8
        rw [if_pos rfl] at j3
        obtain ⟨y1, y2⟩ := hx2 rfl
        obtain ⟨mm, rfl⟩ : ∃ mm : Nat, m = mm := ⟨m.toNat, by omega⟩
        rw [Int.toNat_natCast] at j3
        have hcell := bool_at (l := R') (i := hn) (by omega)
        generalize R'.getD hn false = bh at *
        have hmk := fun w' B' hm => mark2_calls n gR cR R' mm bh w' B' j2 (by omega) hm
        have hl3 := markF_len R' mm bh
        rw [j2] at hl3
        generalize markF R' mm bh = m3 at *
        obtain ⟨R3, b3⟩ := m3
        dsimp only at *
        repeat (first
          | refine qv rfl (qp rfl) rfl rfl ?_ | refine TL_nil ?_ | refine T_seq ?_ | refine T_region ?_ | refine qcT rfl ?_ | refine qcF rfl ?_ | refine T_skip ?_
          | refine T_exit ?_ | refine T_ret ?_ | refine T_block ?_ | refine E_then ?_ | refine E_thenX ?_ | refine E_thenR ?_ | refine E_blockN ?_
          | refine E_blockR ?_ | refine E_blockX ?_ | refine E_blockO rfl ?_ | refine qs rfl rfl rfl rfl rfl rfl ?_
          | ((try refine qg rfl rfl rfl ?_); first | refine qv rfl (qp rfl) rfl rfl ?_ | refine qv rfl (rr_idxc Und.eq TyC.ty rfl rfl c7) rfl rfl ?_ | refine qv rfl (rr_loadN TyC.ty rfl rfl (hatx _)) rfl rfl ?_ | refine qv rfl (qlen Und.eq rfl) rfl rfl ?_ | refine qv rfl (qfld FldC.fld rfl rfl) rfl rfl ?_ | refine qv rfl (rr_lss rfl rfl (qT (by omega))) rfl rfl ?_ | refine qv rfl (rr_lss rfl rfl (qF (by omega))) rfl rfl ?_ | refine qv rfl (rr_eql rfl rfl (qT (by omega))) rfl rfl ?_ | refine qv rfl (rr_eql rfl rfl (qF (by omega))) rfl rfl ?_ | refine qv rfl (rr_add64 rfl rfl (by omega) (by omega) rfl) rfl rfl ?_))
        clear hatx
        refine TL_new rfl fun g9 => ?_
        refine TL_storeB (i := 5) rfl rfl rfl rfl rfl rfl ?_
        conv => arg 8; simp only [zA, zB, zC, zD, zE, zF, zG, zH, zI, rowS, ret, id_eq]
        repeat (first
          | refine qv rfl (qp rfl) rfl rfl ?_ | refine TL_nil ?_ | refine T_seq ?_ | refine T_region ?_ | refine qcT rfl ?_ | refine qcF rfl ?_ | refine T_skip ?_
          | refine T_exit ?_ | refine T_ret ?_ | refine T_block ?_ | refine E_then ?_ | refine E_thenX ?_ | refine E_thenR ?_ | refine E_blockN ?_
          | refine E_blockR ?_ | refine E_blockX ?_ | refine E_blockO rfl ?_ | refine qs rfl rfl rfl rfl rfl rfl ?_
          | ((try refine qg rfl rfl rfl ?_); first | refine qv rfl (qp rfl) rfl rfl ?_ | refine qv rfl (rr_load1 TyC.ty rfl (at_blk (i := 5) rfl rfl)) rfl rfl ?_ | refine qv rfl (qlen Und.eq rfl) rfl rfl ?_ | refine qv rfl (qfld FldC.fld rfl rfl) rfl rfl ?_ | refine qv rfl (rr_lss rfl rfl (qT (by omega))) rfl rfl ?_ | refine qv rfl (rr_lss rfl rfl (qF (by omega))) rfl rfl ?_ | refine qv rfl (rr_eql rfl rfl (qT (by omega))) rfl rfl ?_ | refine qv rfl (rr_eql rfl rfl (qF (by omega))) rfl rfl ?_ | refine qv rfl (rr_add64 rfl rfl (by omega) (by omega) rfl) rfl rfl ?_))
        refine T_ord ([blkO g3 (facV (vRow n gE cE) vF vL (vRow n gR cR) (vRow n gM cM)).cells 63, blkO g7 #[.int .i64 (hn : Int), .slice (some ⟨b', off', none⟩) body.length cb] 36, blkO g9 #[.int .i64 2, .int .i64 (mm : Int)] 58]) (.calm 0 (.calm 1 (.calm 2 (.calm 3 (.calm 4 (.calm 5 (.calm 6 (.calm 7 (.calm 8 (.one 9 (.one 10 (.calm 11 (.calm 12 (.calm 13 (.calm 14 (.done)))))))))))))))) (sub_pick [3, 4, 5] (by decide) rfl) (by kernel_rfl) (by kernel_rfl) (by intro c a d v w h; cases d <;> exact h) ?_
        repeat (first
          | ((first | refine TW_plain rfl rfl ?_ | refine TW_gmet rfl rfl rfl rfl ?_); first | refine TN_val (qp rfl) rfl rfl ?_ | refine TN_val (rr_load1 TyC.ty rfl (at_blk (i := 0) rfl rfl)) rfl rfl ?_ | refine TN_val (rr_load1 TyC.ty rfl (at_blk (i := 1) rfl rfl)) rfl rfl ?_ | refine TN_val (rr_load1 TyC.ty rfl (at_blk (i := 2) rfl rfl)) rfl rfl ?_ | refine TN_val (rr_idx1 Und.eq TyC.ty rfl rfl (show hn < n by omega)) rfl rfl ?_ | refine TN_val (qlen Und.eq rfl) rfl rfl ?_ | refine TN_val (qfld FldC.fld rfl rfl) rfl rfl ?_ | refine TN_val (rr_lss rfl rfl (qT (by omega))) rfl rfl ?_ | refine TN_val (rr_lss rfl rfl (qF (by omega))) rfl rfl ?_ | refine TN_val (rr_eql rfl rfl (qT (by omega))) rfl rfl ?_ | refine TN_val (rr_eql rfl rfl (qF (by omega))) rfl rfl ?_ | refine TN_val (rr_add64 rfl rfl (by omega) (by omega) rfl) rfl rfl ?_)
          | refine TW_skip rfl rfl rfl rfl rfl rfl rfl ?_ | refine TW_done ?_)
        refine TW_one rfl (TL_val (rr_load1 TyC.ty rfl (at_row (i := 1) rfl (by rw [Nat.zero_add]; exact hcell))) rfl rfl rfl (TW_on (sub_pick [3, 4, 5] (by decide) rfl) ?_))
        refine TW_one rfl ?_
        refine TL_callB [1] [0, 2, 3, 4, 5] (by decide) rfl rfl (he3 EntersC.en rfl rfl rfl rfl) (fun w hm hb => hmk w _ hb) rfl rfl rfl ?_
        intro _ _
        conv => arg 8; simp only [zA, zB, zC, zD, zE, zF, zG, zH, zI, rowS, ret, id_eq]
        refine TW_on (sub_pick [2, 3, 4] (by decide) rfl) ?_
        cases b3
        · repeat (first
            | ((first | refine TW_plain rfl rfl ?_ | refine TW_gmet rfl rfl rfl rfl ?_); first | refine TN_val (qp rfl) rfl rfl ?_ | refine TN_val (qlen Und.eq rfl) rfl rfl ?_ | refine TN_val (qfld FldC.fld rfl rfl) rfl rfl ?_ | refine TN_val (rr_lss rfl rfl (qT (by omega))) rfl rfl ?_ | refine TN_val (rr_lss rfl rfl (qF (by omega))) rfl rfl ?_ | refine TN_val (rr_eql rfl rfl (qT (by omega))) rfl rfl ?_ | refine TN_val (rr_eql rfl rfl (qF (by omega))) rfl rfl ?_ | refine TN_val (rr_add64 rfl rfl (by omega) (by omega) rfl) rfl rfl ?_)
            | refine TW_skip rfl rfl rfl rfl rfl rfl rfl ?_ | refine TW_done ?_)
          repeat (first
            | refine qv rfl (qp rfl) rfl rfl ?_ | refine TL_nil ?_ | refine T_seq ?_ | refine T_region ?_ | refine qcT rfl ?_ | refine qcF rfl ?_ | refine T_skip ?_
            | refine T_exit ?_ | refine T_ret ?_ | refine T_block ?_ | refine E_then ?_ | refine E_thenX ?_ | refine E_thenR ?_ | refine E_blockN ?_
            | refine E_blockR ?_ | refine E_blockX ?_ | refine E_blockO rfl ?_ | refine qs rfl rfl rfl rfl rfl rfl ?_
            | ((try refine qg rfl rfl rfl ?_); first | refine qv rfl (qp rfl) rfl rfl ?_ | refine qv rfl (qlen Und.eq rfl) rfl rfl ?_ | refine qv rfl (qfld FldC.fld rfl rfl) rfl rfl ?_ | refine qv rfl (rr_lss rfl rfl (qT (by omega))) rfl rfl ?_ | refine qv rfl (rr_lss rfl rfl (qF (by omega))) rfl rfl ?_ | refine qv rfl (rr_eql rfl rfl (qT (by omega))) rfl rfl ?_ | refine qv rfl (rr_eql rfl rfl (qF (by omega))) rfl rfl ?_ | refine qv rfl (rr_add64 rfl rfl (by omega) (by omega) rfl) rfl rfl ?_))
          refine E_pick [0, 5, 1, 2, 3] (by decide) rfl ?_
          exact E_round (j + 1, R3, false || m') ⟨by omega, hl3, j3⟩ (by show body.length - (j + 1) < body.length - j; omega) (by repeat' (first | exact True.intro | refine And.intro rfl ?_)) rfl
        · repeat (first
            | ((first | refine TW_plain rfl rfl ?_ | refine TW_gmet rfl rfl rfl rfl ?_); first | refine TN_val (qp rfl) rfl rfl ?_ | refine TN_val (qlen Und.eq rfl) rfl rfl ?_ | refine TN_val (qfld FldC.fld rfl rfl) rfl rfl ?_ | refine TN_val (rr_lss rfl rfl (qT (by omega))) rfl rfl ?_ | refine TN_val (rr_lss rfl rfl (qF (by omega))) rfl rfl ?_ | refine TN_val (rr_eql rfl rfl (qT (by omega))) rfl rfl ?_ | refine TN_val (rr_eql rfl rfl (qF (by omega))) rfl rfl ?_ | refine TN_val (rr_add64 rfl rfl (by omega) (by omega) rfl) rfl rfl ?_)
            | refine TW_skip rfl rfl rfl rfl rfl rfl rfl ?_ | refine TW_done ?_)
          repeat (first
            | refine qv rfl (qp rfl) rfl rfl ?_ | refine TL_nil ?_ | refine T_seq ?_ | refine T_region ?_ | refine qcT rfl ?_ | refine qcF rfl ?_ | refine T_skip ?_
            | refine T_exit ?_ | refine T_ret ?_ | refine T_block ?_ | refine E_then ?_ | refine E_thenX ?_ | refine E_thenR ?_ | refine E_blockN ?_
            | refine E_blockR ?_ | refine E_blockX ?_ | refine E_blockO rfl ?_ | refine qs rfl rfl rfl rfl rfl rfl ?_
            | ((try refine qg rfl rfl rfl ?_); first | refine qv rfl (qp rfl) rfl rfl ?_ | refine qv rfl (qlen Und.eq rfl) rfl rfl ?_ | refine qv rfl (qfld FldC.fld rfl rfl) rfl rfl ?_ | refine qv rfl (rr_lss rfl rfl (qT (by omega))) rfl rfl ?_ | refine qv rfl (rr_lss rfl rfl (qF (by omega))) rfl rfl ?_ | refine qv rfl (rr_eql rfl rfl (qT (by omega))) rfl rfl ?_ | refine qv rfl (rr_eql rfl rfl (qF (by omega))) rfl rfl ?_ | refine qv rfl (rr_add64 rfl rfl (by omega) (by omega) rfl) rfl rfl ?_))
          refine E_pick [0, 5, 1, 2, 3] (by decide) rfl ?_
          exact E_round (j + 1, R3, true || m') ⟨by omega, hl3, j3⟩ (by show body.length - (j + 1) < body.length - j; omega) (by repeat' (first | exact True.intro | refine And.intro rfl ?_)) rfl
      · rw [if_neg c8] at j3
        dsimp only at j3
        repeat (first
          | refine qv rfl (qp rfl) rfl rfl ?_ | refine TL_nil ?_ | refine T_seq ?_ | refine T_region ?_ | refine qcT rfl ?_ | refine qcF rfl ?_ | refine T_skip ?_
          | refine T_exit ?_ | refine T_ret ?_ | refine T_block ?_ | refine E_then ?_ | refine E_thenX ?_ | refine E_thenR ?_ | refine E_blockN ?_
          | refine E_blockR ?_ | refine E_blockX ?_ | refine E_blockO rfl ?_ | refine qs rfl rfl rfl rfl rfl rfl ?_
          | ((try refine qg rfl rfl rfl ?_); first | refine qv rfl (qp rfl) rfl rfl ?_ | refine qv rfl (rr_idxc Und.eq TyC.ty rfl rfl c7) rfl rfl ?_ | refine qv rfl (rr_loadN TyC.ty rfl rfl (hatx _)) rfl rfl ?_ | refine qv rfl (qlen Und.eq rfl) rfl rfl ?_ | refine qv rfl (qfld FldC.fld rfl rfl) rfl rfl ?_ | refine qv rfl (rr_lss rfl rfl (qT (by omega))) rfl rfl ?_ | refine qv rfl (rr_lss rfl rfl (qF (by omega))) rfl rfl ?_ | refine qv rfl (rr_eql rfl rfl (qT (by omega))) rfl rfl ?_ | refine qv rfl (rr_eql rfl rfl (qF (by omega))) rfl rfl ?_ | refine qv rfl (rr_add64 rfl rfl (by omega) (by omega) rfl) rfl rfl ?_))
        clear hatx
        refine TL_new rfl fun g9 => ?_
        refine TL_storeB (i := 5) rfl rfl rfl rfl rfl rfl ?_
        conv => arg 8; simp only [zA, zB, zC, zD, zE, zF, zG, zH, zI, rowS, ret, id_eq]
        repeat (first
          | refine qv rfl (qp rfl) rfl rfl ?_ | refine TL_nil ?_ | refine T_seq ?_ | refine T_region ?_ | refine qcT rfl ?_ | refine qcF rfl ?_ | refine T_skip ?_
          | refine T_exit ?_ | refine T_ret ?_ | refine T_block ?_ | refine E_then ?_ | refine E_thenX ?_ | refine E_thenR ?_ | refine E_blockN ?_
          | refine E_blockR ?_ | refine E_blockX ?_ | refine E_blockO rfl ?_ | refine qs rfl rfl rfl rfl rfl rfl ?_
          | ((try refine qg rfl rfl rfl ?_); first | refine qv rfl (qp rfl) rfl rfl ?_ | refine qv rfl (rr_load1 TyC.ty rfl (at_blk (i := 5) rfl rfl)) rfl rfl ?_ | refine qv rfl (qlen Und.eq rfl) rfl rfl ?_ | refine qv rfl (qfld FldC.fld rfl rfl) rfl rfl ?_ | refine qv rfl (rr_lss rfl rfl (qT (by omega))) rfl rfl ?_ | refine qv rfl (rr_lss rfl rfl (qF (by omega))) rfl rfl ?_ | refine qv rfl (rr_eql rfl rfl (qT (by omega))) rfl rfl ?_ | refine qv rfl (rr_eql rfl rfl (qF (by omega))) rfl rfl ?_ | refine qv rfl (rr_add64 rfl rfl (by omega) (by omega) rfl) rfl rfl ?_))
        refine E_pick [0, 1, 2, 3, 4] (by decide) rfl ?_
        exact E_round (j + 1, R', m') ⟨by omega, j2, j3⟩ (by show body.length - (j + 1) < body.length - j; omega) (by repeat' (first | exact True.intro | refine And.intro rfl ?_)) rfl
    · rw [List.drop_of_length_le (by omega)] at j3
      have j3 : (R', m') = (R2, mo2) := j3
      simp only [Prod.mk.injEq] at j3
      obtain ⟨rfl, rfl⟩ := j3
      repeat (first
        | refine qv rfl (qp rfl) rfl rfl ?_ | refine TL_nil ?_ | refine T_seq ?_ | refine T_region ?_ | refine qcT rfl ?_ | refine qcF rfl ?_ | refine T_skip ?_
        | refine T_exit ?_ | refine T_ret ?_ | refine T_block ?_ | refine E_then ?_ | refine E_thenX ?_ | refine E_thenR ?_ | refine E_blockN ?_
        | refine E_blockR ?_ | refine E_blockX ?_ | refine E_blockO rfl ?_ | refine qs rfl rfl rfl rfl rfl rfl ?_
        | ((try refine qg rfl rfl rfl ?_); first | refine qv rfl (qp rfl) rfl rfl ?_ | refine qv rfl (qlen Und.eq rfl) rfl rfl ?_ | refine qv rfl (qfld FldC.fld rfl rfl) rfl rfl ?_ | refine qv rfl (rr_lss rfl rfl (qT (by omega))) rfl rfl ?_ | refine qv rfl (rr_lss rfl rfl (qF (by omega))) rfl rfl ?_ | refine qv rfl (rr_eql rfl rfl (qT (by omega))) rfl rfl ?_ | refine qv rfl (rr_eql rfl rfl (qF (by omega))) rfl rfl ?_ | refine qv rfl (rr_add64 rfl rfl (by omega) (by omega) rfl) rfl rfl ?_))
      refine E_pick [0, 1, 2, 3] (by decide) rfl ?_
      exact E_round (k + 1, ⟨E1, R', M1, m'⟩) ⟨by omega, hl1, j2, hl2, i5⟩ (by show prods.length - (k + 1) < prods.length - k; omega) (by repeat' (first | exact True.intro | refine And.intro rfl ?_)) rfl
  · rw [List.drop_of_length_le (by omega)] at i5
    have i5 : (⟨E, R, M, more⟩ : FS) = fin := i5
    subst i5
    repeat (first
      | refine qv rfl (qp rfl) rfl rfl ?_ | refine TL_nil ?_ | refine T_seq ?_ | refine T_region ?_ | refine qcT rfl ?_ | refine qcF rfl ?_ | refine T_skip ?_
      | refine T_exit ?_ | refine T_ret ?_ | refine T_block ?_ | refine E_then ?_ | refine E_thenX ?_ | refine E_thenR ?_ | refine E_blockN ?_
      | refine E_blockR ?_ | refine E_blockX ?_ | refine E_blockO rfl ?_ | refine qs rfl rfl rfl rfl rfl rfl ?_
      | ((try refine qg rfl rfl rfl ?_); first | refine qv rfl (qp rfl) rfl rfl ?_ | refine qv rfl (qlen Und.eq rfl) rfl rfl ?_ | refine qv rfl (qfld FldC.fld rfl rfl) rfl rfl ?_ | refine qv rfl (rr_lss rfl rfl (qT (by omega))) rfl rfl ?_ | refine qv rfl (rr_lss rfl rfl (qF (by omega))) rfl rfl ?_ | refine qv rfl (rr_eql rfl rfl (qT (by omega))) rfl rfl ?_ | refine qv rfl (rr_eql rfl rfl (qF (by omega))) rfl rfl ?_ | refine qv rfl (rr_add64 rfl rfl (by omega) (by omega) rfl) rfl rfl ?_))
    exact E_ret1 rfl rfl fun w hm => hm.meetsB (S := ⟨fun (_ : Unit) => True, fun _ => .bool more, fun _ => [rowBn n gE cE E, rowBn n gR cR R, rowBn n gM cM M]⟩) () trivial [0, 1, 2] (by decide) rfl
end Go.Proofs.Ytnicebdkejkieaa.eng
