/- What frame.Feed computes. -/
import Derived.Test.YtnooleopmlijeaaFrameF
namespace Go.Proofs.Ytnooleopmlijeaa.eng
open Go.RowKit kit mix sumL frameL
theorem build_in (w : World) : (Instr.build 47 (#[] : Array (Nat × Value))).run Try.prog w = .ok (.agg #[str [], .int .i64 0]) w := by
  unfold str; go_simp
theorem build_inE (e : Int) (w : World) : (Instr.build 47 #[(1, .int .i64 e)]).run Try.prog w = .ok (.agg #[str [], .int .i64 e]) w := by
  unfold str; go_simp
theorem build_inR (s : List UInt8) (w : World) : (Instr.build 47 #[(0, str s)]).run Try.prog w = .ok (.agg #[str s, .int .i64 0]) w := by
  unfold str; go_simp
def inV (i : List UInt8 × Int) : Value := .agg #[str i.1, .int .i64 i.2]
def frRow (v : Value) (l : List Fm) : Own := rowO 43 3 v l.length (l.flatMap frC)
def feedS (r : (List UInt8 × Int) × List Fm × Int) : Spec Value := ⟨fun _ => True, fun v => .tuple #[inV r.1, v, .int .i64 r.2.2], fun v => [frRow v r.2.1]⟩
/-- by the length of what is left -/
def feedL (s : List UInt8) (out : List Fm) : (List UInt8 × Int) × List Fm × Int := feedGo (s.length + 1) s out
theorem feedL_err {s : List UInt8} {out : List Fm} (h : (frontF s).2.2 ≠ 0) : feedL s out = (([], (frontF s).2.2), out, (frontF s).2.2) := by
  unfold feedL feedGo; rw [if_pos h]
theorem feedL_wait {s : List UInt8} {out : List Fm} (h : (frontF s).2.2 = 0) (h0 : (frontF s).2.1 = 0) : feedL s out = ((s, 0), out, 0) := by
  unfold feedL feedGo; rw [if_neg (by simp [h]), if_pos h0]
theorem feedL_next {s : List UInt8} {out : List Fm} (h : (frontF s).2.2 = 0) (h0 : (frontF s).2.1 ≠ 0) : feedL s out = feedL (s.drop (frontF s).2.1) (out ++ [(frontF s).1]) := by
  have hc := front_cases s
  unfold feedL
  rw [feedGo, if_neg (by simp [h]), if_neg h0]
  exact feedGo_fuel _ _ _ _ (by simp; omega) (by simp)
theorem feedF_eq (i : List UInt8 × Int) (s : List UInt8) : feedF i s = if i.2 ≠ 0 then (i, [], 15) else feedL (i.1 ++ s) [] := by
  unfold feedF feedL
  split
  · rfl
  · exact feedGo_fuel _ _ _ _ (by simp) (by simp)
theorem feedGo_mono : ∀ (f : Nat) (s : List UInt8) (out : List Fm), out.length ≤ (feedGo f s out).2.1.length ∧ (feedGo f s out).2.1.length ≤ out.length + s.length
  | 0, s, out => by simp [feedGo]
  | f + 1, s, out => by
    have hc := front_cases s
    unfold feedGo
    split
    · simp
    · split
      · simp
      · have ih := feedGo_mono f (s.drop (frontF s).2.1) (out ++ [(frontF s).1])
        simp at ih ⊢
        omega
theorem feedF_len (i : List UInt8 × Int) (s : List UInt8) : (feedF i s).2.1.length ≤ i.1.length + s.length := by
  unfold feedF
  split
  · simp
  · have := (feedGo_mono (i.1.length + s.length + 1) (i.1 ++ s) []).2
    simpa using this
attribute [local irreducible] Op.shift Go.bits in
set_option maxHeartbeats 4000000 in
theorem feedG_calls (i : List UInt8 × Int) (s : List UInt8) (w : World) (hs : i.1.length + s.length ≤ 1000000000000000000) (ho : (feedF i s).2.1.length ≤ 4398046511104) : Calls Try.prog 24 #[inV i, str s] w (Meets (feedS (feedF i s)) w) := by
  rw [feedF_eq] at ho ⊢
  obtain ⟨b, e⟩ := i
  dsimp only at hs ⊢
  refine enter (args := [.agg #[str b, .int .i64 e], str s]) (n := 43) Try.func24 rfl rfl rfl ?_
  refine T_seq (T_region (TL_box rfl rfl rfl fun g => TL_new rfl fun g2 => ?_))
  by_cases c0 : e = 0
  · subst c0
    rw [if_neg (by simp)] at ho ⊢
    repeat (first
      | refine TL_val (rr_move rfl) rfl rfl rfl ?_
      | refine TL_val (rr_assign rfl) rfl rfl rfl ?_
      | refine TL_nil ?_
      | refine T_seq ?_
      | refine T_region ?_
      | refine T_condT rfl ?_
      | refine T_condF rfl ?_
      | refine T_skip ?_
      | refine T_ret ?_
      | refine T_block ?_
      | refine E_then ?_
      | refine E_thenR ?_
      | refine E_blockN ?_
      | refine E_blockR ?_
      | refine TL_val (rr_load1 TyC.ty rfl (at_blk (i := 0) rfl rfl)) rfl rfl rfl ?_
      | refine TL_val (rr_stradd rfl rfl (by omega)) rfl rfl rfl ?_
      | refine TL_val (rr_extract rfl rfl) rfl rfl rfl ?_
      | refine TL_val (rr_field FldC.fld rfl rfl) rfl rfl rfl ?_
      | refine TL_val (rr_eql rfl rfl (decide_eq_true (by omega))) rfl rfl rfl ?_
      | refine TL_val (rr_eql rfl rfl (decide_eq_false (by omega))) rfl rfl rfl ?_
      | refine TL_val (rr_neq rfl rfl (decide_eq_true (by omega))) rfl rfl rfl ?_
      | refine TL_val (rr_neq rfl rfl (decide_eq_false (by omega))) rfl rfl rfl ?_)
    refine T_nil 43 3 ?_
    generalize hR : feedL (b ++ s) [] = R at *
    refine T_loop (ι := List UInt8 × List Fm × Value) (fun (r, o, _) => feedL r o = R ∧ r.length ≤ 1000000000000000000) (fun (r, _, v) => [(1, str r), (7, v), (4, .pointer (some ⟨g2, 0, none⟩))]) (fun (_, o, v) => [blkO g #[str b, .int .i64 0] 47, blkO g2 #[str [], .int .i64 0] 47, frRow v o]) (fun (r, _, _) => r.length) (b ++ s, [], .slice none 0 0) ⟨hR, by simpa using hs⟩ ⟨rfl, rfl, rfl, trivial⟩ rfl ?_
    rintro ⟨r, o, v⟩ ⟨h1, h2⟩
    clear hR
    dsimp only at h1 h2 ⊢
    have hcall := front_calls r
    have hcs := front_cases r
    by_cases c1 : (frontF r).2.2 = 0
    · by_cases c2 : (frontF r).2.1 = 0
      · rw [feedL_wait c1 c2] at h1
        rw [c1, c2] at hcall
        generalize (frontF r).1 = f at *
        subst h1
        clear c1 c2 hcs
        repeat (first
          | refine TL_val (rr_move rfl) rfl rfl rfl ?_
          | refine TL_val (rr_assign rfl) rfl rfl rfl ?_
          | refine TL_nil ?_
          | refine T_seq ?_
          | refine T_region ?_
          | refine T_condT rfl ?_
          | refine T_condF rfl ?_
          | refine T_skip ?_
          | refine T_ret ?_
          | refine T_block ?_
          | refine E_then ?_
          | refine E_thenR ?_
          | refine E_blockN ?_
          | refine E_blockR ?_
          | refine TL_val (rr_extract rfl rfl) rfl rfl rfl ?_
          | refine TL_val (rr_field FldC.fld rfl rfl) rfl rfl rfl ?_
          | refine TL_val (rr_eql rfl rfl (decide_eq_true (by omega))) rfl rfl rfl ?_
          | refine TL_val (rr_eql rfl rfl (decide_eq_false (by omega))) rfl rfl rfl ?_
          | refine TL_val (rr_neq rfl rfl (decide_eq_true (by omega))) rfl rfl rfl ?_
          | refine TL_val (rr_neq rfl rfl (decide_eq_false (by omega))) rfl rfl rfl ?_)
        refine TL_call (he1 EntersC.en rfl rfl) (fun w hm => hcall w (by omega)) rfl rfl rfl ?_
        intro _ _
        repeat (first
          | refine TL_val (rr_move rfl) rfl rfl rfl ?_
          | refine TL_val (rr_assign rfl) rfl rfl rfl ?_
          | refine TL_nil ?_
          | refine T_seq ?_
          | refine T_region ?_
          | refine T_condT rfl ?_
          | refine T_condF rfl ?_
          | refine T_skip ?_
          | refine T_ret ?_
          | refine T_block ?_
          | refine E_then ?_
          | refine E_thenR ?_
          | refine E_blockN ?_
          | refine E_blockR ?_
          | refine TL_val (rr_extract rfl rfl) rfl rfl rfl ?_
          | refine TL_val (rr_field FldC.fld rfl rfl) rfl rfl rfl ?_
          | refine TL_val (rr_eql rfl rfl (decide_eq_true (by omega))) rfl rfl rfl ?_
          | refine TL_val (rr_eql rfl rfl (decide_eq_false (by omega))) rfl rfl rfl ?_
          | refine TL_val (rr_neq rfl rfl (decide_eq_true (by omega))) rfl rfl rfl ?_
          | refine TL_val (rr_neq rfl rfl (decide_eq_false (by omega))) rfl rfl rfl ?_)
        refine TL_new rfl fun g3 => ?_
        refine TL_storeB (i := 3) rfl rfl rfl rfl rfl rfl ?_
        repeat (first
          | refine TL_val (rr_move rfl) rfl rfl rfl ?_
          | refine TL_val (rr_assign rfl) rfl rfl rfl ?_
          | refine TL_nil ?_
          | refine T_seq ?_
          | refine T_region ?_
          | refine T_condT rfl ?_
          | refine T_condF rfl ?_
          | refine T_skip ?_
          | refine T_ret ?_
          | refine T_block ?_
          | refine E_then ?_
          | refine E_thenR ?_
          | refine E_blockN ?_
          | refine E_blockR ?_
          | refine TL_val (rr_build rfl (build_inR _)) rfl rfl rfl ?_
          | refine TL_val (rr_extract rfl rfl) rfl rfl rfl ?_
          | refine TL_val (rr_field FldC.fld rfl rfl) rfl rfl rfl ?_
          | refine TL_val (rr_eql rfl rfl (decide_eq_true (by omega))) rfl rfl rfl ?_
          | refine TL_val (rr_eql rfl rfl (decide_eq_false (by omega))) rfl rfl rfl ?_
          | refine TL_val (rr_neq rfl rfl (decide_eq_true (by omega))) rfl rfl rfl ?_
          | refine TL_val (rr_neq rfl rfl (decide_eq_false (by omega))) rfl rfl rfl ?_)
        refine TL_storeB (i := 1) rfl rfl rfl rfl rfl rfl ?_
        repeat (first
          | refine TL_val (rr_move rfl) rfl rfl rfl ?_
          | refine TL_val (rr_assign rfl) rfl rfl rfl ?_
          | refine TL_nil ?_
          | refine T_seq ?_
          | refine T_region ?_
          | refine T_condT rfl ?_
          | refine T_condF rfl ?_
          | refine T_skip ?_
          | refine T_ret ?_
          | refine T_block ?_
          | refine E_then ?_
          | refine E_thenR ?_
          | refine E_blockN ?_
          | refine E_blockR ?_
          | refine TL_val (rr_extract rfl rfl) rfl rfl rfl ?_
          | refine TL_val (rr_field FldC.fld rfl rfl) rfl rfl rfl ?_
          | refine TL_val (rr_eql rfl rfl (decide_eq_true (by omega))) rfl rfl rfl ?_
          | refine TL_val (rr_eql rfl rfl (decide_eq_false (by omega))) rfl rfl rfl ?_
          | refine TL_val (rr_neq rfl rfl (decide_eq_true (by omega))) rfl rfl rfl ?_
          | refine TL_val (rr_neq rfl rfl (decide_eq_false (by omega))) rfl rfl rfl ?_)
        exact E_retc3 (i := 1) rfl rfl rfl rfl rfl rfl fun w hm => hm.meets (S := feedS ((r, 0), o, 0)) v trivial [2] (by decide) rfl
      · rw [feedL_next c1 c2] at h1
        rw [c1] at hcall
        generalize (frontF r).1 = f at *
        generalize (frontF r).2.1 = k at *
        have hol := (feedGo_mono ((r.drop k).length + 1) (r.drop k) (o ++ [f])).1
        replace hol : o.length + 1 ≤ R.2.1.length := by rw [← h1]; simpa [feedL] using hol
        have hk : 8 ≤ k ∧ k ≤ r.length := by rcases hcs with h | h | h <;> first | exact absurd h.2 c2 | exact ⟨h.2.1, h.2.2.1⟩
        clear c1 hcs
        repeat (first
          | refine TL_val (rr_move rfl) rfl rfl rfl ?_
          | refine TL_val (rr_assign rfl) rfl rfl rfl ?_
          | refine TL_nil ?_
          | refine T_seq ?_
          | refine T_region ?_
          | refine T_condT rfl ?_
          | refine T_condF rfl ?_
          | refine T_skip ?_
          | refine T_ret ?_
          | refine T_block ?_
          | refine E_then ?_
          | refine E_thenR ?_
          | refine E_blockN ?_
          | refine E_blockR ?_
          | refine TL_val (rr_extract rfl rfl) rfl rfl rfl ?_
          | refine TL_val (rr_field FldC.fld rfl rfl) rfl rfl rfl ?_
          | refine TL_val (rr_eql rfl rfl (decide_eq_true (by omega))) rfl rfl rfl ?_
          | refine TL_val (rr_eql rfl rfl (decide_eq_false (by omega))) rfl rfl rfl ?_
          | refine TL_val (rr_neq rfl rfl (decide_eq_true (by omega))) rfl rfl rfl ?_
          | refine TL_val (rr_neq rfl rfl (decide_eq_false (by omega))) rfl rfl rfl ?_)
        refine TL_call (he1 EntersC.en rfl rfl) (fun w hm => hcall w (by omega)) rfl rfl rfl ?_
        intro _ _
        repeat (first
          | refine TL_val (rr_move rfl) rfl rfl rfl ?_
          | refine TL_val (rr_assign rfl) rfl rfl rfl ?_
          | refine TL_nil ?_
          | refine T_seq ?_
          | refine T_region ?_
          | refine T_condT rfl ?_
          | refine T_condF rfl ?_
          | refine T_skip ?_
          | refine T_ret ?_
          | refine T_block ?_
          | refine E_then ?_
          | refine E_thenR ?_
          | refine E_blockN ?_
          | refine E_blockR ?_
          | refine TL_val (rr_extract rfl rfl) rfl rfl rfl ?_
          | refine TL_val (rr_field FldC.fld rfl rfl) rfl rfl rfl ?_
          | refine TL_val (rr_eql rfl rfl (decide_eq_true (by omega))) rfl rfl rfl ?_
          | refine TL_val (rr_eql rfl rfl (decide_eq_false (by omega))) rfl rfl rfl ?_
          | refine TL_val (rr_neq rfl rfl (decide_eq_true (by omega))) rfl rfl rfl ?_
          | refine TL_val (rr_neq rfl rfl (decide_eq_false (by omega))) rfl rfl rfl ?_)
        refine TL_new rfl fun g3 => ?_
        refine TL_storeB (i := 3) rfl rfl rfl rfl rfl rfl ?_
        clear hcall
        repeat (first
          | refine TL_val (rr_move rfl) rfl rfl rfl ?_
          | refine TL_val (rr_assign rfl) rfl rfl rfl ?_
          | refine TL_nil ?_
          | refine T_seq ?_
          | refine T_region ?_
          | refine T_condT rfl ?_
          | refine T_condF rfl ?_
          | refine T_skip ?_
          | refine T_ret ?_
          | refine T_block ?_
          | refine E_then ?_
          | refine E_thenR ?_
          | refine E_blockN ?_
          | refine E_blockR ?_
          | refine TL_val (rr_extract rfl rfl) rfl rfl rfl ?_
          | refine TL_val (rr_field FldC.fld rfl rfl) rfl rfl rfl ?_
          | refine TL_val (rr_eql rfl rfl (decide_eq_true (by omega))) rfl rfl rfl ?_
          | refine TL_val (rr_eql rfl rfl (decide_eq_false (by omega))) rfl rfl rfl ?_
          | refine TL_val (rr_neq rfl rfl (decide_eq_true (by omega))) rfl rfl rfl ?_
          | refine TL_val (rr_neq rfl rfl (decide_eq_false (by omega))) rfl rfl rfl ?_)
        refine T_order ([blkO g3 #[.int .i64 f.1, .int .i64 f.2.1, str f.2.2] 43]) [(1, true), (4, true), (5, true), (6, true), (0, true), (2, false), (3, false), (7, true), (8, true)] (sub_pick [3] (by decide) rfl) (by kernel_rfl) (by kernel_rfl) (by intro c a d v w h; cases d <;> exact h) ?_
        repeat (first
          | refine TV_val (rr_move rfl) rfl rfl rfl ?_
          | refine TV_val (rr_assign rfl) rfl rfl rfl ?_
          | refine TV_val (rr_loadB (i := 0) TyC.ty rfl rfl rfl) rfl rfl rfl ?_
          | refine TV_val (rr_strfrom Und.eq rfl rfl (by omega)) rfl rfl rfl ?_
          | refine TV_val (rr_extract rfl rfl) rfl rfl rfl ?_
          | refine TV_val (rr_field FldC.fld rfl rfl) rfl rfl rfl ?_
          | refine TV_val (rr_eql rfl rfl (decide_eq_true (by omega))) rfl rfl rfl ?_
          | refine TV_val (rr_eql rfl rfl (decide_eq_false (by omega))) rfl rfl rfl ?_
          | refine TV_val (rr_neq rfl rfl (decide_eq_true (by omega))) rfl rfl rfl ?_
          | refine TV_val (rr_neq rfl rfl (decide_eq_false (by omega))) rfl rfl rfl ?_
          | refine TV_nil ?_)
        refine TV_do (TL_one rfl rfl rfl rfl rfl fun g4 => TV_on (sub_pick [3] (by decide) rfl) ?_)
        refine TV_do (TL_app1 (i := 2) (q := 4) rfl rfl rfl rfl rfl rfl (by omega) (by omega) rfl fun v' => TV_on (sub_pick [3] (by decide) rfl) ?_)
        repeat (first
          | refine TV_val (rr_move rfl) rfl rfl rfl ?_
          | refine TV_val (rr_assign rfl) rfl rfl rfl ?_
          | refine TV_val (rr_extract rfl rfl) rfl rfl rfl ?_
          | refine TV_val (rr_field FldC.fld rfl rfl) rfl rfl rfl ?_
          | refine TV_val (rr_eql rfl rfl (decide_eq_true (by omega))) rfl rfl rfl ?_
          | refine TV_val (rr_eql rfl rfl (decide_eq_false (by omega))) rfl rfl rfl ?_
          | refine TV_val (rr_neq rfl rfl (decide_eq_true (by omega))) rfl rfl rfl ?_
          | refine TV_val (rr_neq rfl rfl (decide_eq_false (by omega))) rfl rfl rfl ?_
          | refine TV_nil ?_)
        repeat (first
          | refine TL_val (rr_move rfl) rfl rfl rfl ?_
          | refine TL_val (rr_assign rfl) rfl rfl rfl ?_
          | refine TL_nil ?_
          | refine T_seq ?_
          | refine T_region ?_
          | refine T_condT rfl ?_
          | refine T_condF rfl ?_
          | refine T_skip ?_
          | refine T_ret ?_
          | refine T_block ?_
          | refine E_then ?_
          | refine E_thenR ?_
          | refine E_blockN ?_
          | refine E_blockR ?_
          | refine TL_val (rr_extract rfl rfl) rfl rfl rfl ?_
          | refine TL_val (rr_field FldC.fld rfl rfl) rfl rfl rfl ?_
          | refine TL_val (rr_eql rfl rfl (decide_eq_true (by omega))) rfl rfl rfl ?_
          | refine TL_val (rr_eql rfl rfl (decide_eq_false (by omega))) rfl rfl rfl ?_
          | refine TL_val (rr_neq rfl rfl (decide_eq_true (by omega))) rfl rfl rfl ?_
          | refine TL_val (rr_neq rfl rfl (decide_eq_false (by omega))) rfl rfl rfl ?_)
        refine E_pick [0, 1, 2] (by decide) rfl ?_
        exact E_round (r.drop k, o ++ [f], v') ⟨h1, by simp; omega⟩ (by show (r.drop k).length < r.length; simp; omega) ⟨rfl, rfl, rfl, trivial⟩ (by simp [frRow, frC]; rfl)
    · rw [feedL_err c1] at h1
      have hk : (frontF r).2.1 = 0 := by rcases hcs with h | h | h <;> first | exact h.2 | exact absurd h.1 c1
      generalize (frontF r).1 = f at *
      generalize (frontF r).2.2 = e at *
      subst h1
      clear hcs
      repeat (first
        | refine TL_val (rr_move rfl) rfl rfl rfl ?_
        | refine TL_val (rr_assign rfl) rfl rfl rfl ?_
        | refine TL_nil ?_
        | refine T_seq ?_
        | refine T_region ?_
        | refine T_condT rfl ?_
        | refine T_condF rfl ?_
        | refine T_skip ?_
        | refine T_ret ?_
        | refine T_block ?_
        | refine E_then ?_
        | refine E_thenR ?_
        | refine E_blockN ?_
        | refine E_blockR ?_
        | refine TL_val (rr_extract rfl rfl) rfl rfl rfl ?_
        | refine TL_val (rr_field FldC.fld rfl rfl) rfl rfl rfl ?_
        | refine TL_val (rr_eql rfl rfl (decide_eq_true (by omega))) rfl rfl rfl ?_
        | refine TL_val (rr_eql rfl rfl (decide_eq_false (by omega))) rfl rfl rfl ?_
        | refine TL_val (rr_neq rfl rfl (decide_eq_true (by omega))) rfl rfl rfl ?_
        | refine TL_val (rr_neq rfl rfl (decide_eq_false (by omega))) rfl rfl rfl ?_)
      refine TL_call (he1 EntersC.en rfl rfl) (fun w hm => hcall w (by omega)) rfl rfl rfl ?_
      intro _ _
      repeat (first
        | refine TL_val (rr_move rfl) rfl rfl rfl ?_
        | refine TL_val (rr_assign rfl) rfl rfl rfl ?_
        | refine TL_nil ?_
        | refine T_seq ?_
        | refine T_region ?_
        | refine T_condT rfl ?_
        | refine T_condF rfl ?_
        | refine T_skip ?_
        | refine T_ret ?_
        | refine T_block ?_
        | refine E_then ?_
        | refine E_thenR ?_
        | refine E_blockN ?_
        | refine E_blockR ?_
        | refine TL_val (rr_extract rfl rfl) rfl rfl rfl ?_
        | refine TL_val (rr_field FldC.fld rfl rfl) rfl rfl rfl ?_
        | refine TL_val (rr_eql rfl rfl (decide_eq_true (by omega))) rfl rfl rfl ?_
        | refine TL_val (rr_eql rfl rfl (decide_eq_false (by omega))) rfl rfl rfl ?_
        | refine TL_val (rr_neq rfl rfl (decide_eq_true (by omega))) rfl rfl rfl ?_
        | refine TL_val (rr_neq rfl rfl (decide_eq_false (by omega))) rfl rfl rfl ?_)
      refine TL_new rfl fun g3 => ?_
      refine TL_storeB (i := 3) rfl rfl rfl rfl rfl rfl ?_
      repeat (first
        | refine TL_val (rr_move rfl) rfl rfl rfl ?_
        | refine TL_val (rr_assign rfl) rfl rfl rfl ?_
        | refine TL_nil ?_
        | refine T_seq ?_
        | refine T_region ?_
        | refine T_condT rfl ?_
        | refine T_condF rfl ?_
        | refine T_skip ?_
        | refine T_ret ?_
        | refine T_block ?_
        | refine E_then ?_
        | refine E_thenR ?_
        | refine E_blockN ?_
        | refine E_blockR ?_
        | refine TL_val (rr_build rfl (build_inE _)) rfl rfl rfl ?_
        | refine TL_val (rr_extract rfl rfl) rfl rfl rfl ?_
        | refine TL_val (rr_field FldC.fld rfl rfl) rfl rfl rfl ?_
        | refine TL_val (rr_eql rfl rfl (decide_eq_true (by omega))) rfl rfl rfl ?_
        | refine TL_val (rr_eql rfl rfl (decide_eq_false (by omega))) rfl rfl rfl ?_
        | refine TL_val (rr_neq rfl rfl (decide_eq_true (by omega))) rfl rfl rfl ?_
        | refine TL_val (rr_neq rfl rfl (decide_eq_false (by omega))) rfl rfl rfl ?_)
      refine TL_storeB (i := 1) rfl rfl rfl rfl rfl rfl ?_
      repeat (first
        | refine TL_val (rr_move rfl) rfl rfl rfl ?_
        | refine TL_val (rr_assign rfl) rfl rfl rfl ?_
        | refine TL_nil ?_
        | refine T_seq ?_
        | refine T_region ?_
        | refine T_condT rfl ?_
        | refine T_condF rfl ?_
        | refine T_skip ?_
        | refine T_ret ?_
        | refine T_block ?_
        | refine E_then ?_
        | refine E_thenR ?_
        | refine E_blockN ?_
        | refine E_blockR ?_
        | refine TL_val (rr_extract rfl rfl) rfl rfl rfl ?_
        | refine TL_val (rr_field FldC.fld rfl rfl) rfl rfl rfl ?_
        | refine TL_val (rr_eql rfl rfl (decide_eq_true (by omega))) rfl rfl rfl ?_
        | refine TL_val (rr_eql rfl rfl (decide_eq_false (by omega))) rfl rfl rfl ?_
        | refine TL_val (rr_neq rfl rfl (decide_eq_true (by omega))) rfl rfl rfl ?_
        | refine TL_val (rr_neq rfl rfl (decide_eq_false (by omega))) rfl rfl rfl ?_)
      exact E_retc3 (i := 1) rfl rfl rfl rfl rfl rfl fun w hm => hm.meets (S := feedS (([], e), o, e)) v trivial [2] (by decide) rfl
  · rw [if_pos c0]
    repeat (first
      | refine TL_val (rr_move rfl) rfl rfl rfl ?_
      | refine TL_val (rr_assign rfl) rfl rfl rfl ?_
      | refine TL_nil ?_
      | refine T_seq ?_
      | refine T_region ?_
      | refine T_condT rfl ?_
      | refine T_condF rfl ?_
      | refine T_skip ?_
      | refine T_ret ?_
      | refine T_block ?_
      | refine E_then ?_
      | refine E_thenR ?_
      | refine E_blockN ?_
      | refine E_blockR ?_
      | refine TL_val (rr_load1 TyC.ty rfl (at_blk (i := 0) rfl rfl)) rfl rfl rfl ?_
      | refine TL_val (rr_loadB (i := 0) TyC.ty rfl rfl rfl) rfl rfl rfl ?_
      | refine TL_val (rr_extract rfl rfl) rfl rfl rfl ?_
      | refine TL_val (rr_field FldC.fld rfl rfl) rfl rfl rfl ?_
      | refine TL_val (rr_eql rfl rfl (decide_eq_true (by omega))) rfl rfl rfl ?_
      | refine TL_val (rr_eql rfl rfl (decide_eq_false (by omega))) rfl rfl rfl ?_
      | refine TL_val (rr_neq rfl rfl (decide_eq_true (by omega))) rfl rfl rfl ?_
      | refine TL_val (rr_neq rfl rfl (decide_eq_false (by omega))) rfl rfl rfl ?_)
    refine TL_storeB (i := 1) rfl rfl rfl rfl rfl rfl ?_
    repeat (first
      | refine TL_val (rr_move rfl) rfl rfl rfl ?_
      | refine TL_val (rr_assign rfl) rfl rfl rfl ?_
      | refine TL_nil ?_
      | refine T_seq ?_
      | refine T_region ?_
      | refine T_condT rfl ?_
      | refine T_condF rfl ?_
      | refine T_skip ?_
      | refine T_ret ?_
      | refine T_block ?_
      | refine E_then ?_
      | refine E_thenR ?_
      | refine E_blockN ?_
      | refine E_blockR ?_
      | refine TL_val (rr_extract rfl rfl) rfl rfl rfl ?_
      | refine TL_val (rr_field FldC.fld rfl rfl) rfl rfl rfl ?_
      | refine TL_val (rr_eql rfl rfl (decide_eq_true (by omega))) rfl rfl rfl ?_
      | refine TL_val (rr_eql rfl rfl (decide_eq_false (by omega))) rfl rfl rfl ?_
      | refine TL_val (rr_neq rfl rfl (decide_eq_true (by omega))) rfl rfl rfl ?_
      | refine TL_val (rr_neq rfl rfl (decide_eq_false (by omega))) rfl rfl rfl ?_)
    refine E_nilrow 43 3 ?_
    exact E_retc3 (i := 1) rfl rfl rfl rfl rfl rfl fun w hm => hm.meets (S := feedS ((b, e), [], 15)) (.slice none 0 0) trivial [2] (by decide) rfl
theorem feed_calls (i : List UInt8 × Int) (s : List UInt8) (w : World) (hs : i.1.length + s.length ≤ 1000000000000) : Calls Try.prog 24 #[inV i, str s] w (Meets (feedS (feedF i s)) w) :=
  feedG_calls i s w (by omega) (by have := feedF_len i s; omega)
end Go.Proofs.Ytnooleopmlijeaa.eng
