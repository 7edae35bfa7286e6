/- What count.fill, filled, Trees compute. -/
import Derived.Test.YtnicebdkejkieaaCountC
import Derived.Test.YtnicebdkejkieaaCountN
namespace Go.Proofs.Ytnicebdkejkieaa.eng
open Go.RowKit kit mix gramL countL
set_option maxHeartbeats 8000000 in
theorem fill_calls (w0 : World) (gc gm n : Nat) (t : Int) (vp vw : Value) (word : List Int) (prods : List gramL.Prod) (hG : SlF prodS (fun k => k < w0.heap.size) w0 vp prods) (hW : Sl w0 vw word.length (word.map (.int .i64))) (hfine : FineC n prods) (hin : NonsIn n prods) (hn : n ≤ 20) (hlen : prods.length ≤ 40) (hw : word.length ≤ 20) (w : World) (B : Base) (ho : Old w0 B) (hm : Mem B [blkO gc (chV t (n : Int) vp vw gm) 104, chM gm (fun _ => 0) 0] w) :
    Calls Try.prog 84 #[.pointer (some ⟨gc, 0, none⟩)] w (MeetsB ⟨fun (x : Chart × Nat) => Lfp word prods n x.1 ∧ x.2 ≤ 1000000, fun _ => .tuple #[], fun x => [blkO gc (chV t (n : Int) vp vw gm) 104, chM gm x.1 x.2]⟩ B) := by
  have hround := fun c Bd a b hc hab hb hBd w' B' ho hm => roundC_calls w0 gc gm n t vp vw word prods c Bd a b hG hW hfine hn hlen hc hab hb hw hBd w' B' ho hm
  obtain ⟨bw, cw, rfl, _⟩ := hW
  refine enterB hm (args := [.pointer (some ⟨gc, 0, none⟩)]) (n := 32) Try.func84 rfl rfl rfl ?_
  clear hm
  repeat (first
    | refine qv rfl (qp rfl) rfl rfl ?_ | refine TL_nil ?_ | refine T_seq ?_ | refine T_region ?_ | refine qcT rfl ?_ | refine qcF rfl ?_ | refine T_skip ?_
    | refine T_exit ?_ | refine T_block ?_ | refine E_then ?_ | refine E_thenX ?_ | refine E_thenR ?_ | refine E_blockN ?_ | refine E_blockR ?_
    | refine E_blockX ?_ | refine E_blockO rfl ?_ | refine qv rfl (qlen Und.eq rfl) rfl rfl ?_ | refine qv rfl (qfld FldC.fld rfl rfl) rfl rfl ?_
    | refine qv rfl (rr_nilc rfl) rfl rfl ?_ | refine qv rfl (rr_leq rfl rfl (qT (by omega))) rfl rfl ?_
    | refine qv rfl (rr_leq rfl rfl (qF (by omega))) rfl rfl ?_ | refine qv rfl (rr_add64 rfl rfl (by omega) (by omega) rfl) rfl rfl ?_)
  refine T_loop (ι := Nat × Chart × Nat) (fun (s, c, Bd) => s ≤ word.length + 1 ∧ InvC word prods n (fun i j => j - i < s) c ∧ Bd ≤ 1700 * (s * 22)) (fun (s, _, _) => [(0, .pointer (some ⟨gc, 0, none⟩)), (2, .int .i64 (s : Int))])
    (fun (_, c, Bd) => [blkO gc (chV t (n : Int) vp (.slice bw word.length cw) gm) 104, chM gm c Bd]) (fun (s, _, _) => word.length + 1 - s) (0, fun _ => 0, 0) ⟨by omega, inv0, by omega⟩ (by repeat' (first | exact True.intro | refine And.intro rfl ?_)) rfl ?_
  rintro ⟨s, c, Bd⟩ ⟨i1, i2, i3⟩
  dsimp only at i1 i2 i3 ⊢
  by_cases c6 : s ≤ word.length
  · repeat (first
      | refine qv rfl (qp rfl) rfl rfl ?_ | refine TL_nil ?_ | refine T_seq ?_ | refine T_region ?_ | refine qcT rfl ?_ | refine qcF rfl ?_ | refine T_skip ?_
      | refine T_exit ?_ | refine T_block ?_ | refine E_then ?_ | refine E_thenX ?_ | refine E_thenR ?_ | refine E_blockN ?_ | refine E_blockR ?_
      | refine E_blockX ?_ | refine E_blockO rfl ?_ | refine qv rfl (rr_load1 TyC.ty rfl (at_blk (i := 0) rfl rfl)) rfl rfl ?_
      | refine qv rfl (qlen Und.eq rfl) rfl rfl ?_ | refine qv rfl (qfld FldC.fld rfl rfl) rfl rfl ?_ | refine qv rfl (rr_nilc rfl) rfl rfl ?_
      | refine qv rfl (rr_leq rfl rfl (qT (by omega))) rfl rfl ?_ | refine qv rfl (rr_leq rfl rfl (qF (by omega))) rfl rfl ?_
      | refine qv rfl (rr_add64 rfl rfl (by omega) (by omega) rfl) rfl rfl ?_)
    refine T_loop (ι := Nat × Chart × Nat) (fun (f, c, Bd) => f + s ≤ word.length + 1 ∧ InvC word prods n (fun i j => j - i < s ∨ (j - i = s ∧ i < f)) c ∧ Bd ≤ 1700 * (s * 22 + f)) (fun (f, _, _) => [(0, .pointer (some ⟨gc, 0, none⟩)), (2, .int .i64 (s : Int)), (3, .int .i64 (f : Int))])
      (fun (_, c, Bd) => [blkO gc (chV t (n : Int) vp (.slice bw word.length cw) gm) 104, chM gm c Bd]) (fun (f, _, _) => word.length + 1 - f) (0, c, Bd) ⟨by omega, i2.same fun i j _ _ => by omega, by omega⟩ (by repeat' (first | exact True.intro | refine And.intro rfl ?_)) rfl ?_
    clear i2 i3
    rintro ⟨f, c, Bd⟩ ⟨j1, i2, i3⟩
    dsimp only at j1 i2 i3 ⊢
    by_cases c7 : f + s ≤ word.length
    · repeat (first
        | refine qv rfl (qp rfl) rfl rfl ?_ | refine TL_nil ?_ | refine T_seq ?_ | refine T_region ?_ | refine qcT rfl ?_ | refine qcF rfl ?_ | refine T_skip ?_
        | refine T_exit ?_ | refine T_block ?_ | refine E_then ?_ | refine E_thenX ?_ | refine E_thenR ?_ | refine E_blockN ?_ | refine E_blockR ?_
        | refine E_blockX ?_ | refine E_blockO rfl ?_ | refine qv rfl (rr_load1 TyC.ty rfl (at_blk (i := 0) rfl rfl)) rfl rfl ?_
        | refine qv rfl (qlen Und.eq rfl) rfl rfl ?_ | refine qv rfl (qfld FldC.fld rfl rfl) rfl rfl ?_ | refine qv rfl (rr_nilc rfl) rfl rfl ?_
        | refine qv rfl (rr_leq rfl rfl (qT (by omega))) rfl rfl ?_ | refine qv rfl (rr_leq rfl rfl (qF (by omega))) rfl rfl ?_
        | refine qv rfl (rr_add64 rfl rfl (by omega) (by omega) rfl) rfl rfl ?_)
      refine T_loop (ι := Chart × Nat × Bool) (fun (c, Bd, m) => InvI word prods n (fun i j => j - i < s ∨ (j - i = s ∧ i < f)) f (f + s) c ∧ (m = false → Fix1 word prods n c f (f + s)) ∧ Bd + 20 * (2 * lackC n c f (f + s) + (if m = true then 1 else 0)) ≤ 1700 * (s * 22 + f) + 1620) (fun (_, _, m) => [(0, .pointer (some ⟨gc, 0, none⟩)), (2, .int .i64 (s : Int)), (3, .int .i64 (f : Int)), (4, .bool m)])
        (fun (c, Bd, _) => [blkO gc (chV t (n : Int) vp (.slice bw word.length cw) gm) 104, chM gm c Bd]) (fun (c, _, m) => 2 * lackC n c f (f + s) + (if m = true then 1 else 0)) (c, Bd, true) ⟨i2.begin (by omega) c7 (by omega), fun h => (by cases h), by have := lackC_le n c f (f + s); rw [if_pos rfl]; omega⟩ (by repeat' (first | exact True.intro | refine And.intro rfl ?_)) rfl ?_
      clear i2 i3
      rintro ⟨c, Bd, m⟩ ⟨i2, i3, i4⟩
      dsimp only at i2 i3 i4 ⊢
      cases m
      · have i3 := i3 rfl
        repeat (first
          | refine qv rfl (qp rfl) rfl rfl ?_ | refine TL_nil ?_ | refine T_seq ?_ | refine T_region ?_ | refine qcT rfl ?_ | refine qcF rfl ?_ | refine T_skip ?_
          | refine T_exit ?_ | refine T_block ?_ | refine E_then ?_ | refine E_thenX ?_ | refine E_thenR ?_ | refine E_blockN ?_ | refine E_blockR ?_
          | refine E_blockX ?_ | refine E_blockO rfl ?_ | refine qv rfl (qlen Und.eq rfl) rfl rfl ?_ | refine qv rfl (qfld FldC.fld rfl rfl) rfl rfl ?_
          | refine qv rfl (rr_nilc rfl) rfl rfl ?_ | refine qv rfl (rr_leq rfl rfl (qT (by omega))) rfl rfl ?_
          | refine qv rfl (rr_leq rfl rfl (qF (by omega))) rfl rfl ?_ | refine qv rfl (rr_add64 rfl rfl (by omega) (by omega) rfl) rfl rfl ?_)
        exact E_round (f + 1, c, Bd) ⟨by omega, i2.done i3 fun i j _ _ => by omega, by rw [if_neg (by decide)] at i4; dsimp only; omega⟩ (by show word.length + 1 - (f + 1) < word.length + 1 - f; omega) (by repeat' (first | exact True.intro | refine And.intro rfl ?_)) rfl
      · have hinv := round_inv hin i2 (by omega) c7 (by intro i j h; omega)
        have hfix := round_fix hin i2 (by omega)
        have hlk := lack_round i2 n (Nat.le_refl _)
        rw [if_pos rfl] at i4
        repeat (first
          | refine qv rfl (qp rfl) rfl rfl ?_ | refine TL_nil ?_ | refine T_seq ?_ | refine T_region ?_ | refine qcT rfl ?_ | refine qcF rfl ?_ | refine T_skip ?_
          | refine T_exit ?_ | refine T_block ?_ | refine E_then ?_ | refine E_thenX ?_ | refine E_thenR ?_ | refine E_blockN ?_ | refine E_blockR ?_
          | refine E_blockX ?_ | refine E_blockO rfl ?_ | refine qv rfl (qlen Und.eq rfl) rfl rfl ?_ | refine qv rfl (qfld FldC.fld rfl rfl) rfl rfl ?_
          | refine qv rfl (rr_nilc rfl) rfl rfl ?_ | refine qv rfl (rr_leq rfl rfl (qT (by omega))) rfl rfl ?_
          | refine qv rfl (rr_leq rfl rfl (qF (by omega))) rfl rfl ?_ | refine qv rfl (rr_add64 rfl rfl (by omega) (by omega) rfl) rfl rfl ?_)
        refine TL_callB [0, 1] [] (by decide) rfl rfl (he3 EntersC.en rfl rfl rfl rfl) (fun w hm hb => hround c Bd f (f + s) i2.le2 (by omega) c7 (by omega) w _ (ho.on hm (by intro o ho; simpa using ho)) hb) rfl rfl rfl ?_
        intro _ _
        conv => arg 8; simp only [zA, zB, zC, zD, zE, zF, zG, zH, zI, rowS, ret, id_eq]
        repeat (first
          | refine qv rfl (qp rfl) rfl rfl ?_ | refine TL_nil ?_ | refine T_seq ?_ | refine T_region ?_ | refine qcT rfl ?_ | refine qcF rfl ?_ | refine T_skip ?_
          | refine T_exit ?_ | refine T_block ?_ | refine E_then ?_ | refine E_thenX ?_ | refine E_thenR ?_ | refine E_blockN ?_ | refine E_blockR ?_
          | refine E_blockX ?_ | refine E_blockO rfl ?_ | refine qv rfl (qlen Und.eq rfl) rfl rfl ?_ | refine qv rfl (qfld FldC.fld rfl rfl) rfl rfl ?_
          | refine qv rfl (rr_nilc rfl) rfl rfl ?_ | refine qv rfl (rr_leq rfl rfl (qT (by omega))) rfl rfl ?_
          | refine qv rfl (rr_leq rfl rfl (qF (by omega))) rfl rfl ?_ | refine qv rfl (rr_add64 rfl rfl (by omega) (by omega) rfl) rfl rfl ?_)
        refine E_round (roundC c word prods n f (f + s) n, Bd + n, newB c word prods f (f + s) n) ⟨hinv, hfix, ?_⟩ ?_ (by repeat' (first | exact True.intro | refine And.intro rfl ?_)) rfl
        · dsimp only
          by_cases c8 : newB c word prods f (f + s) n = true
          · have := hlk.2 c8; rw [if_pos c8]; omega
          · have := hlk.1; rw [if_neg c8]; omega
        · dsimp only
          rw [if_pos rfl]
          by_cases c8 : newB c word prods f (f + s) n = true
          · have := hlk.2 c8; rw [if_pos c8]; omega
          · have := hlk.1; rw [if_neg c8]; omega
    · repeat (first
        | refine qv rfl (qp rfl) rfl rfl ?_ | refine TL_nil ?_ | refine T_seq ?_ | refine T_region ?_ | refine qcT rfl ?_ | refine qcF rfl ?_ | refine T_skip ?_
        | refine T_exit ?_ | refine T_block ?_ | refine E_then ?_ | refine E_thenX ?_ | refine E_thenR ?_ | refine E_blockN ?_ | refine E_blockR ?_
        | refine E_blockX ?_ | refine E_blockO rfl ?_ | refine qv rfl (rr_load1 TyC.ty rfl (at_blk (i := 0) rfl rfl)) rfl rfl ?_
        | refine qv rfl (qlen Und.eq rfl) rfl rfl ?_ | refine qv rfl (qfld FldC.fld rfl rfl) rfl rfl ?_ | refine qv rfl (rr_nilc rfl) rfl rfl ?_
        | refine qv rfl (rr_leq rfl rfl (qT (by omega))) rfl rfl ?_ | refine qv rfl (rr_leq rfl rfl (qF (by omega))) rfl rfl ?_
        | refine qv rfl (rr_add64 rfl rfl (by omega) (by omega) rfl) rfl rfl ?_)
      exact E_round (s + 1, c, Bd) ⟨by omega, i2.same fun i j _ _ => by omega, by dsimp only; omega⟩ (by show word.length + 1 - (s + 1) < word.length + 1 - s; omega) (by repeat' (first | exact True.intro | refine And.intro rfl ?_)) rfl
  · repeat (first
      | refine qv rfl (qp rfl) rfl rfl ?_ | refine TL_nil ?_ | refine T_seq ?_ | refine T_region ?_ | refine qcT rfl ?_ | refine qcF rfl ?_ | refine T_skip ?_
      | refine T_exit ?_ | refine T_block ?_ | refine E_then ?_ | refine E_thenX ?_ | refine E_thenR ?_ | refine E_blockN ?_ | refine E_blockR ?_
      | refine E_blockX ?_ | refine E_blockO rfl ?_ | refine qv rfl (rr_load1 TyC.ty rfl (at_blk (i := 0) rfl rfl)) rfl rfl ?_
      | refine qv rfl (qlen Und.eq rfl) rfl rfl ?_ | refine qv rfl (qfld FldC.fld rfl rfl) rfl rfl ?_ | refine qv rfl (rr_nilc rfl) rfl rfl ?_
      | refine qv rfl (rr_leq rfl rfl (qT (by omega))) rfl rfl ?_ | refine qv rfl (rr_leq rfl rfl (qF (by omega))) rfl rfl ?_
      | refine qv rfl (rr_add64 rfl rfl (by omega) (by omega) rfl) rfl rfl ?_)
    exact E_end0 rfl fun w hm => hm.meetsB (S := ⟨fun (x : Chart × Nat) => Lfp word prods n x.1 ∧ x.2 ≤ 1000000, fun _ => .tuple #[], fun x => [blkO gc (chV t (n : Int) vp (.slice bw word.length cw) gm) 104, chM gm x.1 x.2]⟩) (c, Bd) ⟨i2.lfp fun i j _ _ => by omega, by dsimp only; omega⟩ [0, 1] (by decide) rfl
theorem build_chart (t n : Int) (b b' : Option Addr) (m c m' c' gm : Nat) (w : World) : (Instr.build 104 #[(0, graV t n (.slice b m c)), (1, .slice b' m' c'), (2, .map (some gm))]).run Try.prog w = .ok (.agg (chV t n (.slice b m c) (.slice b' m' c') gm)) w := by
  unfold graV chV
  go_simp
def filledS (g : Gram) (word : List Int) (vp vw : Value) : Spec (Nat × Nat × Chart × Nat) := ⟨fun x => Lfp word g.prods g.nons.toNat x.2.2.1 ∧ x.2.2.2 ≤ 1000000, fun x => .pointer (some ⟨x.1, 0, none⟩), fun x => [blkO x.1 (chV g.terms g.nons vp vw x.2.1) 104, chM x.2.1 x.2.2.1 x.2.2.2]⟩
theorem fineC_of {g : Gram} {n : Nat} (h : checkG g = 0) (hn : g.nons = n) : FineC n g.prods ∧ NonsIn n g.prods := by
  obtain ⟨a1, a2, a3, a4, a5, a6⟩ := checkG_ok h
  refine ⟨fun p hp => ?_, fun p hp x hx h2 => ?_⟩
  · obtain ⟨b1, b2, b3, b4⟩ := a6 p hp
    refine ⟨b2, by omega, fun x hx => ?_⟩
    have := b4 x hx
    unfold right at this
    split at this
    · simp at this; exact ⟨by omega, by omega⟩
    · split at this
      · simp at this; exact ⟨by omega, by omega⟩
      · simp at this
  · have := (a6 p hp).2.2.2 x hx
    unfold right at this
    rw [if_neg (by omega), if_pos h2] at this
    simp at this; omega
attribute [local irreducible] Instr.build in
set_option maxHeartbeats 2000000 in
theorem filled_calls (vp vw : Value) (g : Gram) (word : List Int) (w : World) (h : GraR (fun k => k < w.heap.size) w (graV g.terms g.nons vp) g) (hs : Sl w vw word.length (word.map (.int .i64))) (hck : checkC g word = 0) :
    Calls Try.prog 63 #[graV g.terms g.nons vp, vw] w (Meets (filledS g word vp vw) w) := by
  obtain ⟨hg, hl, hw⟩ := checkC_ok hck
  obtain ⟨a1, a2, a3, a4, a5, a6⟩ := checkG_ok hg
  obtain ⟨n, hn⟩ : ∃ n : Nat, g.nons = n := ⟨g.nons.toNat, by omega⟩
  obtain ⟨f1, f2⟩ := fineC_of hg hn
  obtain ⟨vp', he, h1, _⟩ := h
  obtain ⟨t, nn, prods⟩ := g
  dsimp only at *
  simp only [graV, Value.agg.injEq, Array.mk.injEq, List.cons.injEq, true_and, and_true] at he
  subst he hn
  have hfill := fun gc gm w' B ho hm => fill_calls w gc gm n t vp vw word prods h1 hs f1 f2 (by omega) a5 hl w' B ho hm
  obtain ⟨bp, cp, rfl, _⟩ := h1
  obtain ⟨bw, cw, rfl, _⟩ := hs
  refine enter (args := [graV t (n : Int) (.slice bp prods.length cp), .slice bw word.length cw]) (n := 14) Try.func63 rfl rfl rfl ?_
  refine T_seq (T_region (TL_box rfl rfl rfl fun g2 => ?_))
  repeat (first
    | refine qv rfl (qp rfl) rfl rfl ?_ | refine TL_nil ?_ | refine T_seq ?_ | refine T_region ?_ | refine T_ret ?_ | refine E_then ?_ | refine E_thenR ?_
    | refine qv rfl (rr_loadB (i := 0) TyC.ty rfl rfl rfl) rfl rfl ?_)
  refine TL_mapT (z := .int .i64 0) spanK rfl fun gm => ?_
  repeat (first
    | refine qv rfl (qp rfl) rfl rfl ?_ | refine TL_nil ?_ | refine T_seq ?_ | refine T_region ?_ | refine T_ret ?_ | refine E_then ?_ | refine E_thenR ?_
    | refine qv rfl (rr_build rfl (build_chart _ _ _ _ _ _ _ _ _)) rfl rfl ?_)
  refine TL_box rfl rfl rfl fun gc => ?_
  conv => arg 8; simp only [zA, zB, zC, zD, zE, zF, zG, zH, zI, rowS, ret, id_eq]
  repeat (first
    | refine qv rfl (qp rfl) rfl rfl ?_ | refine TL_nil ?_ | refine T_seq ?_ | refine T_region ?_ | refine T_ret ?_ | refine E_then ?_ | refine E_thenR ?_)
  refine TL_callB [2, 1] [0] (by decide) rfl rfl (he1 EntersC.en rfl rfl) (fun w' hm hb => hfill gc gm w' _ ((Old.self w).on hm (by intro o ho; simp at ho ⊢; rcases ho with h | h <;> simp [h])) hb) rfl rfl rfl ?_
  rintro ⟨c, Bd⟩ hx
  conv => arg 8; simp only [zA, zB, zC, zD, zE, zF, zG, zH, zI, rowS, ret, id_eq]
  repeat (first
    | refine qv rfl (qp rfl) rfl rfl ?_ | refine TL_nil ?_ | refine T_seq ?_ | refine T_region ?_ | refine T_ret ?_ | refine E_then ?_ | refine E_thenR ?_)
  exact E_ret1 rfl rfl fun w hm => hm.meets (S := filledS ⟨t, n, prods⟩ word (.slice bp prods.length cp) (.slice bw word.length cw)) (gc, gm, c, Bd) hx [1, 2] (by decide) rfl
end Go.Proofs.Ytnicebdkejkieaa.eng
