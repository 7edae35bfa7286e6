/- What count.check, one, atMost, row compute. -/
import Derived.Test.YtnicebdkejkieaaGram
import Derived.Test.YtnicebdkejkieaaCountL
import Derived.Test.YtnicebdkejkieaaMgB
namespace Go.Proofs.Ytnicebdkejkieaa.eng
open Go.RowKit kit mix gramL countL
theorem spanLaid : laidOutB Try.prog = true := by kernel_rfl
theorem spanRow : (108 : TypeId) < Try.prog.types.size := of_decide_eq_true (by kernel_rfl)
theorem spanWide : (match Try.prog.underlying 108 with | some (.array _ _) | some (.struct _) => true | _ => false) = true := by kernel_rfl
def spanV (x : Span) : Value := .agg #[.int .i64 x.1, .int .i64 x.2.1, .int .i64 x.2.2]
theorem span_key (x : Span) (h : kit.okI64 x.1 ∧ kit.okI64 x.2.1 ∧ kit.okI64 x.2.2) : ∃ l, keyOf Try.prog 108 (spanV x) = some l := by
  obtain ⟨a, b, c⟩ := x
  obtain ⟨h1, h2, h3⟩ := h
  have e1 : Try.prog.keyType 108 = true := by kernel_rfl
  have e2 : Try.prog.cellsOf 108 = 3 := by kernel_rfl
  have e3 : Try.prog.cellsOf 3 = 1 := by kernel_rfl
  have e4 : ∃ d, Try.prog.types.size + 1 = d + 2 := ⟨Try.prog.types.size - 1, by have : 0 < Try.prog.types.size := Nat.lt_of_le_of_lt (Nat.zero_le 108) spanRow; omega⟩
  obtain ⟨d, e4⟩ := e4
  have key : ∀ n : Int, kit.okI64 n → Try.prog.keyLits (d + 1) 3 [.int .i64 n] = some [.int .i64 n] := fun n hn => by
    have hw : (Lit.int .i64 n).wf = true := by
      have h0 : -9223372036854775808 ≤ n := hn.1
      have h1 : n ≤ 9223372036854775807 := hn.2
      simp [Lit.wf, IntKind.min, IntKind.max, IntKind.signed, IntKind.bits, h0, h1]
    simp [Program.keyLits, Try.underlying3, hw]
  refine ⟨.string (keyBytes ([.int .i64 a, .int .i64 b, .int .i64 c])), ?_⟩
  have hl : Try.prog.keyLits (d + 2) 108 [.int .i64 a, .int .i64 b, .int .i64 c] = some [.int .i64 a, .int .i64 b, .int .i64 c] := by
    unfold Program.keyLits
    simp [Try.underlying108, e2, e3, key _ h1, key _ h2, key _ h3]
  have hf : (spanV (a, b, c)).formed Try.prog 108 = true := by simp [spanV, Value.formed, Try.underlying108, e2]
  unfold keyOf
  rw [Try.underlying108]
  show (if (Try.prog.keyType 108 && (spanV (a, b, c)).formed Try.prog 108) = true then (Try.prog.keyLits (Try.prog.types.size + 1) 108 [.int .i64 a, .int .i64 b, .int .i64 c]).map (fun ls => Lit.string (keyBytes ls)) else none) = _
  rw [e1, hf, e4, hl]
  rfl
set_option maxRecDepth 100000 in
def spanK : KeyT Try.prog 108 Span where
  kv := spanV
  ok x := kit.okI64 x.1 ∧ kit.okI64 x.2.1 ∧ kit.okI64 x.2.2
  law := deep_law_laid spanLaid (m := 2) (by omega) spanRow (by kernel_rfl) spanWide
  key := span_key
  inj x y h := by
    obtain ⟨a, b, c⟩ := x
    obtain ⟨a', b', c'⟩ := y
    simp only [spanV, Value.agg.injEq, Array.mk.injEq, List.cons.injEq, Value.int.injEq, true_and, and_true] at h
    simp [h]
theorem zero_int (w : World) : (zeroValue 3).run Try.prog w = .ok (.int .i64 0) w := by kernel_rfl
theorem span_ok {m : Int} {a b : Nat} (h : kit.okI64 m) (ha : a ≤ 9223372036854775807) (hb : b ≤ 9223372036854775807) : spanK.ok (m, (a : Int), (b : Int)) := by
  show kit.okI64 m ∧ kit.okI64 (a : Int) ∧ kit.okI64 (b : Int)
  exact ⟨h, ⟨by omega, by omega⟩, ⟨by omega, by omega⟩⟩
def chM (gm : Nat) (c : Chart) (B : Nat) : Own := mapT spanK gm (.int .i64 0) (fun x => .int .i64 (c x : Int)) B
def chV (t n : Int) (vp vw : Value) (gm : Nat) : Array Value := #[.int .i64 t, .int .i64 n, vp, vw, .map (some gm)]
/-- a chart that can be read -/
structure ChR (w : World) (gc gm : Nat) (t n : Int) (vp vw : Value) (word : List Int) (c : Chart) (B : Nat) : Prop where
  cell : w.heap[gc]? = some (.cells (chV t n vp vw gm) 104 (0, 0))
  map : (chM gm c B).holds w
  word : Sl w vw word.length (word.map (.int .i64))
theorem ChR.gr {w w' : World} {gc gm : Nat} {t n : Int} {vp vw : Value} {word : List Int} {c : Chart} {B : Nat} (h : ChR w gc gm t n vp vw word c B) (hg : Gr w w') : ChR w' gc gm t n vp vw word c B :=
  ⟨(hg.block gc (Array.getElem?_eq_some_iff.1 h.cell).1).trans h.cell, (chM gm c B).stay w w' h.map hg.size fun k hk => hg.block k ((chM gm c B).lt w h.map k hk), h.word.gr hg⟩
theorem atMost_calls (m : Int) (w : World) : Calls Try.prog 94 #[.int .i64 m] w (Meets (ret (.int .i64 (min m 2))) w) := by
  refine enter (args := [.int .i64 m]) (n := 5) Try.func94 rfl rfl rfl ?_
  repeat (first
    | refine qv rfl (qp rfl) rfl rfl ?_ | refine TL_nil ?_ | refine T_seq ?_ | refine T_region ?_ | refine T_ret ?_ | refine E_then ?_ | refine E_thenR ?_
    | refine qv rfl (rr_min rfl rfl rfl) rfl rfl ?_ | refine qv rfl (rr_min rfl rfl (by omega)) rfl rfl ?_)
  exact E_ret1 rfl rfl fun w hm => hm.ret
theorem checkW_step {t : Int} {l : List Int} {k : Nat} (h : k < l.length) : checkW t (l.drop k) = if l[k] < 0 then 1 else if t ≤ l[k] then 1 else checkW t (l.drop (k + 1)) := by
  rw [List.drop_eq_getElem_cons h, checkW]
theorem at_int {W : World} {L : List Own} {b off : Nat} {l : List Int} (h : Rd W b off (l.map (.int .i64))) {k : Nat} (hk : k < l.length) : At W L ⟨b, off + k, none⟩ (.int .i64 l[k]) := at_rd h (by simp [hk])
set_option maxHeartbeats 2000000 in
theorem checkC_calls (v vw : Value) (g : Gram) (word : List Int) (w : World) (h : GraR (fun k => k < w.heap.size) w v g) (hs : Sl w vw word.length (word.map (.int .i64))) :
    Calls Try.prog 62 #[v, vw] w (Meets (ret (.int .i64 (checkC g word))) w) := by
  have hck := fun w' (hg : Gr w w') => checkG_calls v g w' (h.gr hg)
  obtain ⟨vp, rfl, _, _⟩ := h
  obtain ⟨bw, cw, rfl, h1, h2, h3⟩ := hs
  unfold maxLen at h2
  have hE : checkC g word = if checkG g ≠ 0 then checkG g else if 20 < word.length then 2 else checkW g.terms word := rfl
  generalize checkC g word = e at *
  generalize checkG g = c at *
  obtain ⟨t, n, prods⟩ := g
  dsimp only at *
  refine enter (args := [graV t n vp, .slice bw word.length cw]) (n := 31) Try.func62 rfl rfl rfl ?_
  refine T_seq (T_region (TL_box rfl rfl rfl fun g2 => ?_))
  repeat (first
    | refine qv rfl (qp rfl) rfl rfl ?_ | refine TL_nil ?_ | refine T_seq ?_ | refine T_region ?_ | refine qcT rfl ?_ | refine qcF rfl ?_ | refine T_skip ?_
    | refine T_exit ?_ | refine T_ret ?_ | refine T_block ?_ | refine E_then ?_ | refine E_thenX ?_ | refine E_thenR ?_ | refine E_blockN ?_
    | refine E_blockR ?_ | refine E_blockX ?_ | refine E_blockO rfl ?_ | refine qs rfl rfl rfl rfl rfl rfl ?_
    | ((try refine qg rfl rfl rfl ?_); first | refine qv rfl (qp rfl) rfl rfl ?_ | refine qv rfl (rr_loadB (i := 0) TyC.ty rfl rfl rfl) rfl rfl ?_ | refine qv rfl (qlen Und.eq rfl) rfl rfl ?_ | refine qv rfl (rr_lss rfl rfl (qT (by omega))) rfl rfl ?_ | refine qv rfl (rr_lss rfl rfl (qF (by omega))) rfl rfl ?_ | refine qv rfl (rr_gtr rfl rfl (qT (by omega))) rfl rfl ?_ | refine qv rfl (rr_gtr rfl rfl (qF (by omega))) rfl rfl ?_ | refine qv rfl (rr_neq rfl rfl (qT (by omega))) rfl rfl ?_ | refine qv rfl (rr_neq rfl rfl (qF (by omega))) rfl rfl ?_ | refine qv rfl (rr_add64 rfl rfl (by omega) (by omega) rfl) rfl rfl ?_ | refine qv rfl (qfld FldC.fld rfl rfl) rfl rfl ?_ | refine qv rfl (rr_geq rfl rfl (qT (by omega))) rfl rfl ?_ | refine qv rfl (rr_geq rfl rfl (qF (by omega))) rfl rfl ?_))
  refine TL_call (he1 EntersC.en rfl rfl) (fun w hm => hck _ hm.below) rfl rfl rfl ?_
  intro _ _
  by_cases c0 : c = 0
  · rw [if_neg (by simpa using c0)] at hE
    by_cases c1 : 20 < word.length
    · rw [if_pos c1] at hE
      subst hE
      repeat (first
        | refine qv rfl (qp rfl) rfl rfl ?_ | refine TL_nil ?_ | refine T_seq ?_ | refine T_region ?_ | refine qcT rfl ?_ | refine qcF rfl ?_ | refine T_skip ?_
        | refine T_exit ?_ | refine T_ret ?_ | refine T_block ?_ | refine E_then ?_ | refine E_thenX ?_ | refine E_thenR ?_ | refine E_blockN ?_
        | refine E_blockR ?_ | refine E_blockX ?_ | refine E_blockO rfl ?_ | refine qs rfl rfl rfl rfl rfl rfl ?_
        | ((try refine qg rfl rfl rfl ?_); first | refine qv rfl (qp rfl) rfl rfl ?_ | refine qv rfl (qlen Und.eq rfl) rfl rfl ?_ | refine qv rfl (rr_lss rfl rfl (qT (by omega))) rfl rfl ?_ | refine qv rfl (rr_lss rfl rfl (qF (by omega))) rfl rfl ?_ | refine qv rfl (rr_gtr rfl rfl (qT (by omega))) rfl rfl ?_ | refine qv rfl (rr_gtr rfl rfl (qF (by omega))) rfl rfl ?_ | refine qv rfl (rr_neq rfl rfl (qT (by omega))) rfl rfl ?_ | refine qv rfl (rr_neq rfl rfl (qF (by omega))) rfl rfl ?_ | refine qv rfl (rr_add64 rfl rfl (by omega) (by omega) rfl) rfl rfl ?_ | refine qv rfl (qfld FldC.fld rfl rfl) rfl rfl ?_ | refine qv rfl (rr_geq rfl rfl (qT (by omega))) rfl rfl ?_ | refine qv rfl (rr_geq rfl rfl (qF (by omega))) rfl rfl ?_))
      exact E_ret1 rfl rfl fun w hm => hm.ret
    rw [if_neg c1] at hE
    conv => arg 8; simp only [zA, zB, zC, zD, zE, zF, zG, zH, zI, rowS, ret, id_eq]
    repeat (first
      | refine qv rfl (qp rfl) rfl rfl ?_ | refine TL_nil ?_ | refine T_seq ?_ | refine T_region ?_ | refine qcT rfl ?_ | refine qcF rfl ?_ | refine T_skip ?_
      | refine T_exit ?_ | refine T_ret ?_ | refine T_block ?_ | refine E_then ?_ | refine E_thenX ?_ | refine E_thenR ?_ | refine E_blockN ?_
      | refine E_blockR ?_ | refine E_blockX ?_ | refine E_blockO rfl ?_ | refine qs rfl rfl rfl rfl rfl rfl ?_
      | ((try refine qg rfl rfl rfl ?_); first | refine qv rfl (qp rfl) rfl rfl ?_ | refine qv rfl (qlen Und.eq rfl) rfl rfl ?_ | refine qv rfl (rr_lss rfl rfl (qT (by omega))) rfl rfl ?_ | refine qv rfl (rr_lss rfl rfl (qF (by omega))) rfl rfl ?_ | refine qv rfl (rr_gtr rfl rfl (qT (by omega))) rfl rfl ?_ | refine qv rfl (rr_gtr rfl rfl (qF (by omega))) rfl rfl ?_ | refine qv rfl (rr_neq rfl rfl (qT (by omega))) rfl rfl ?_ | refine qv rfl (rr_neq rfl rfl (qF (by omega))) rfl rfl ?_ | refine qv rfl (rr_add64 rfl rfl (by omega) (by omega) rfl) rfl rfl ?_ | refine qv rfl (qfld FldC.fld rfl rfl) rfl rfl ?_ | refine qv rfl (rr_geq rfl rfl (qT (by omega))) rfl rfl ?_ | refine qv rfl (rr_geq rfl rfl (qF (by omega))) rfl rfl ?_))
    refine T_loop (ι := Nat) (fun k => k ≤ word.length ∧ e = checkW t (word.drop k)) (fun k => [(2, .pointer (some ⟨g2, 0, none⟩)), (16, .slice bw word.length cw), (17, .int .i64 word.length), (18, .int .i64 (k : Int))])
      (fun _ => [blkO g2 (graV t n vp).cells 24]) (fun k => word.length - k) 0 ⟨Nat.zero_le _, hE⟩ (by repeat' (first | exact True.intro | refine And.intro rfl ?_)) rfl ?_
    clear hE hck
    rintro k ⟨i1, i2⟩
    by_cases c6 : k < word.length
    · obtain ⟨b, off, rfl, hr⟩ := h3 (by omega)
      have hat := fun L => at_int (L := L) hr c6
      rw [checkW_step c6] at i2
      generalize word[k] = x at *
      by_cases c7 : x < 0
      · rw [if_pos c7] at i2
        subst i2
        repeat (first
          | refine qv rfl (qp rfl) rfl rfl ?_ | refine TL_nil ?_ | refine T_seq ?_ | refine T_region ?_ | refine qcT rfl ?_ | refine qcF rfl ?_ | refine T_skip ?_
          | refine T_exit ?_ | refine T_ret ?_ | refine T_block ?_ | refine E_then ?_ | refine E_thenX ?_ | refine E_thenR ?_ | refine E_blockN ?_
          | refine E_blockR ?_ | refine E_blockX ?_ | refine E_blockO rfl ?_ | refine qs rfl rfl rfl rfl rfl rfl ?_
          | ((try refine qg rfl rfl rfl ?_); first | refine qv rfl (qp rfl) rfl rfl ?_ | refine qv rfl (rr_idx1 Und.eq TyC.ty rfl rfl c6) rfl rfl ?_ | refine qv rfl (rr_load1 TyC.ty rfl (hat _)) rfl rfl ?_ | refine qv rfl (rr_load1 TyC.ty rfl (at_blk (i := 0) rfl rfl)) rfl rfl ?_ | refine qv rfl (qlen Und.eq rfl) rfl rfl ?_ | refine qv rfl (rr_lss rfl rfl (qT (by omega))) rfl rfl ?_ | refine qv rfl (rr_lss rfl rfl (qF (by omega))) rfl rfl ?_ | refine qv rfl (rr_gtr rfl rfl (qT (by omega))) rfl rfl ?_ | refine qv rfl (rr_gtr rfl rfl (qF (by omega))) rfl rfl ?_ | refine qv rfl (rr_neq rfl rfl (qT (by omega))) rfl rfl ?_ | refine qv rfl (rr_neq rfl rfl (qF (by omega))) rfl rfl ?_ | refine qv rfl (rr_add64 rfl rfl (by omega) (by omega) rfl) rfl rfl ?_ | refine qv rfl (qfld FldC.fld rfl rfl) rfl rfl ?_ | refine qv rfl (rr_geq rfl rfl (qT (by omega))) rfl rfl ?_ | refine qv rfl (rr_geq rfl rfl (qF (by omega))) rfl rfl ?_))
        exact E_ret1 rfl rfl fun w hm => hm.ret
      rw [if_neg c7] at i2
      by_cases c8 : t ≤ x
      · rw [if_pos c8] at i2
        subst i2
        repeat (first
          | refine qv rfl (qp rfl) rfl rfl ?_ | refine TL_nil ?_ | refine T_seq ?_ | refine T_region ?_ | refine qcT rfl ?_ | refine qcF rfl ?_ | refine T_skip ?_
          | refine T_exit ?_ | refine T_ret ?_ | refine T_block ?_ | refine E_then ?_ | refine E_thenX ?_ | refine E_thenR ?_ | refine E_blockN ?_
          | refine E_blockR ?_ | refine E_blockX ?_ | refine E_blockO rfl ?_ | refine qs rfl rfl rfl rfl rfl rfl ?_
          | ((try refine qg rfl rfl rfl ?_); first | refine qv rfl (qp rfl) rfl rfl ?_ | refine qv rfl (rr_idx1 Und.eq TyC.ty rfl rfl c6) rfl rfl ?_ | refine qv rfl (rr_load1 TyC.ty rfl (hat _)) rfl rfl ?_ | refine qv rfl (rr_load1 TyC.ty rfl (at_blk (i := 0) rfl rfl)) rfl rfl ?_ | refine qv rfl (qlen Und.eq rfl) rfl rfl ?_ | refine qv rfl (rr_lss rfl rfl (qT (by omega))) rfl rfl ?_ | refine qv rfl (rr_lss rfl rfl (qF (by omega))) rfl rfl ?_ | refine qv rfl (rr_gtr rfl rfl (qT (by omega))) rfl rfl ?_ | refine qv rfl (rr_gtr rfl rfl (qF (by omega))) rfl rfl ?_ | refine qv rfl (rr_neq rfl rfl (qT (by omega))) rfl rfl ?_ | refine qv rfl (rr_neq rfl rfl (qF (by omega))) rfl rfl ?_ | refine qv rfl (rr_add64 rfl rfl (by omega) (by omega) rfl) rfl rfl ?_ | refine qv rfl (qfld FldC.fld rfl rfl) rfl rfl ?_ | refine qv rfl (rr_geq rfl rfl (qT (by omega))) rfl rfl ?_ | refine qv rfl (rr_geq rfl rfl (qF (by omega))) rfl rfl ?_))
        exact E_ret1 rfl rfl fun w hm => hm.ret
      rw [if_neg c8] at i2
      repeat (first
        | refine qv rfl (qp rfl) rfl rfl ?_ | refine TL_nil ?_ | refine T_seq ?_ | refine T_region ?_ | refine qcT rfl ?_ | refine qcF rfl ?_ | refine T_skip ?_
        | refine T_exit ?_ | refine T_ret ?_ | refine T_block ?_ | refine E_then ?_ | refine E_thenX ?_ | refine E_thenR ?_ | refine E_blockN ?_
        | refine E_blockR ?_ | refine E_blockX ?_ | refine E_blockO rfl ?_ | refine qs rfl rfl rfl rfl rfl rfl ?_
        | ((try refine qg rfl rfl rfl ?_); first | refine qv rfl (qp rfl) rfl rfl ?_ | refine qv rfl (rr_idx1 Und.eq TyC.ty rfl rfl c6) rfl rfl ?_ | refine qv rfl (rr_load1 TyC.ty rfl (hat _)) rfl rfl ?_ | refine qv rfl (rr_load1 TyC.ty rfl (at_blk (i := 0) rfl rfl)) rfl rfl ?_ | refine qv rfl (qlen Und.eq rfl) rfl rfl ?_ | refine qv rfl (rr_lss rfl rfl (qT (by omega))) rfl rfl ?_ | refine qv rfl (rr_lss rfl rfl (qF (by omega))) rfl rfl ?_ | refine qv rfl (rr_gtr rfl rfl (qT (by omega))) rfl rfl ?_ | refine qv rfl (rr_gtr rfl rfl (qF (by omega))) rfl rfl ?_ | refine qv rfl (rr_neq rfl rfl (qT (by omega))) rfl rfl ?_ | refine qv rfl (rr_neq rfl rfl (qF (by omega))) rfl rfl ?_ | refine qv rfl (rr_add64 rfl rfl (by omega) (by omega) rfl) rfl rfl ?_ | refine qv rfl (qfld FldC.fld rfl rfl) rfl rfl ?_ | refine qv rfl (rr_geq rfl rfl (qT (by omega))) rfl rfl ?_ | refine qv rfl (rr_geq rfl rfl (qF (by omega))) rfl rfl ?_))
      exact E_round (k + 1) ⟨by omega, i2⟩ (by show word.length - (k + 1) < word.length - k; omega) (by repeat' (first | exact True.intro | refine And.intro rfl ?_)) rfl
    · rw [List.drop_of_length_le (by omega)] at i2
      have i2 : e = 0 := i2
      subst i2
      repeat (first
        | refine qv rfl (qp rfl) rfl rfl ?_ | refine TL_nil ?_ | refine T_seq ?_ | refine T_region ?_ | refine qcT rfl ?_ | refine qcF rfl ?_ | refine T_skip ?_
        | refine T_exit ?_ | refine T_ret ?_ | refine T_block ?_ | refine E_then ?_ | refine E_thenX ?_ | refine E_thenR ?_ | refine E_blockN ?_
        | refine E_blockR ?_ | refine E_blockX ?_ | refine E_blockO rfl ?_ | refine qs rfl rfl rfl rfl rfl rfl ?_
        | ((try refine qg rfl rfl rfl ?_); first | refine qv rfl (qp rfl) rfl rfl ?_ | refine qv rfl (qlen Und.eq rfl) rfl rfl ?_ | refine qv rfl (rr_lss rfl rfl (qT (by omega))) rfl rfl ?_ | refine qv rfl (rr_lss rfl rfl (qF (by omega))) rfl rfl ?_ | refine qv rfl (rr_gtr rfl rfl (qT (by omega))) rfl rfl ?_ | refine qv rfl (rr_gtr rfl rfl (qF (by omega))) rfl rfl ?_ | refine qv rfl (rr_neq rfl rfl (qT (by omega))) rfl rfl ?_ | refine qv rfl (rr_neq rfl rfl (qF (by omega))) rfl rfl ?_ | refine qv rfl (rr_add64 rfl rfl (by omega) (by omega) rfl) rfl rfl ?_ | refine qv rfl (qfld FldC.fld rfl rfl) rfl rfl ?_ | refine qv rfl (rr_geq rfl rfl (qT (by omega))) rfl rfl ?_ | refine qv rfl (rr_geq rfl rfl (qF (by omega))) rfl rfl ?_))
      exact E_ret1 rfl rfl fun w hm => hm.ret
  · rw [if_pos (by simpa using c0)] at hE
    subst hE
    repeat (first
      | refine qv rfl (qp rfl) rfl rfl ?_ | refine TL_nil ?_ | refine T_seq ?_ | refine T_region ?_ | refine qcT rfl ?_ | refine qcF rfl ?_ | refine T_skip ?_
      | refine T_exit ?_ | refine T_ret ?_ | refine T_block ?_ | refine E_then ?_ | refine E_thenX ?_ | refine E_thenR ?_ | refine E_blockN ?_
      | refine E_blockR ?_ | refine E_blockX ?_ | refine E_blockO rfl ?_ | refine qs rfl rfl rfl rfl rfl rfl ?_
      | ((try refine qg rfl rfl rfl ?_); first | refine qv rfl (qp rfl) rfl rfl ?_ | refine qv rfl (qlen Und.eq rfl) rfl rfl ?_ | refine qv rfl (rr_lss rfl rfl (qT (by omega))) rfl rfl ?_ | refine qv rfl (rr_lss rfl rfl (qF (by omega))) rfl rfl ?_ | refine qv rfl (rr_gtr rfl rfl (qT (by omega))) rfl rfl ?_ | refine qv rfl (rr_gtr rfl rfl (qF (by omega))) rfl rfl ?_ | refine qv rfl (rr_neq rfl rfl (qT (by omega))) rfl rfl ?_ | refine qv rfl (rr_neq rfl rfl (qF (by omega))) rfl rfl ?_ | refine qv rfl (rr_add64 rfl rfl (by omega) (by omega) rfl) rfl rfl ?_ | refine qv rfl (qfld FldC.fld rfl rfl) rfl rfl ?_ | refine qv rfl (rr_geq rfl rfl (qT (by omega))) rfl rfl ?_ | refine qv rfl (rr_geq rfl rfl (qF (by omega))) rfl rfl ?_))
    exact E_ret1 rfl rfl fun w hm => hm.ret
theorem build_span (a b c : Int) (w : World) : (Instr.build 108 #[(0, .int .i64 a), (1, .int .i64 b), (2, .int .i64 c)]).run Try.prog w = .ok (spanV (a, b, c)) w := by
  unfold spanV
  go_simp
attribute [local irreducible] Instr.build in
set_option maxHeartbeats 2000000 in
theorem one_calls (gc gm : Nat) (t n : Int) (vp vw : Value) (word : List Int) (c : Chart) (B : Nat) (x : Sym) (a b : Nat) (w : World) (h : ChR w gc gm t n vp vw word c B) (hx : kit.okI64 x.2) (hab : a ≤ b) (hb : b ≤ word.length) (hw : word.length ≤ 20) :
    Calls Try.prog 90 #[.pointer (some ⟨gc, 0, none⟩), .agg (symC x).toArray, .int .i64 (a : Int), .int .i64 (b : Int)] w (Meets (ret (.int .i64 (oneF c word x a b : Nat))) w) := by
  obtain ⟨hc, hmap, hs⟩ := h
  have h3 : ∀ (L : List Own), At w L ⟨gc, 3, none⟩ vw := fun L => at_old (by rw [cell_of_row w gc 3 _ _ _ hc]; rfl)
  have h4 : ∀ (L : List Own), At w L ⟨gc, 4, none⟩ (.map (some gm)) := fun L => at_old (by rw [cell_of_row w gc 4 _ _ _ hc]; rfl)
  have hmp : ∀ (L : List Own) w', Mem w L w' → (chM gm c B).holds w' := fun L w' hm => (chM gm c B).stay w w' hmap hm.below.size fun k hk => hm.below.block k ((chM gm c B).lt w hmap k hk)
  obtain ⟨bw, cw, rfl, h5, h6, h7⟩ := hs
  unfold maxLen at h6
  obtain ⟨q, m⟩ := x
  dsimp only at hx
  refine enter (args := [.pointer (some ⟨gc, 0, none⟩), .agg (symC (q, m)).toArray, .int .i64 (a : Int), .int .i64 (b : Int)]) (n := 38) Try.func90 rfl rfl rfl ?_
  refine T_seq (T_region (TL_box rfl rfl rfl fun g5 => ?_))
  unfold oneF
  dsimp only
  by_cases c1 : q = 2
  · rw [if_pos c1]
    repeat (first
      | refine qv rfl (qp rfl) rfl rfl ?_ | refine TL_nil ?_ | refine T_seq ?_ | refine T_region ?_ | refine qcT rfl ?_ | refine qcF rfl ?_ | refine T_skip ?_
      | refine T_ret ?_ | refine E_then ?_ | refine E_thenR ?_ | refine qs rfl rfl rfl rfl rfl rfl ?_
      | ((try refine qg rfl rfl rfl ?_); first | refine qv rfl (qp rfl) rfl rfl ?_ | refine qv rfl (rr_load1 TyC.ty rfl (at_blk (i := 0) rfl rfl)) rfl rfl ?_ | refine qv rfl (qfld FldC.fld rfl rfl) rfl rfl ?_ | refine qv rfl (rr_nilc rfl) rfl rfl ?_ | refine qv rfl (rr_eql rfl rfl (qT (by omega))) rfl rfl ?_ | refine qv rfl (rr_eql rfl rfl (qF (by omega))) rfl rfl ?_ | refine qv rfl (rr_add64 rfl rfl (by omega) (by omega) rfl) rfl rfl ?_))
    refine T_ord ([blkO g5 (symC (q, m)).toArray 58]) (.calm 0 (.calm 1 (.calm 2 (.calm 3 (.calm 4 (.calm 5 (.calm 6 (.calm 7 (.calm 8 (.calm 9 (.calm 10 (.done)))))))))))) (fun _ h => h) (by kernel_rfl) (by kernel_rfl) (by intro c a d v w h; cases d <;> exact h) ?_
    repeat (first
      | ((first | refine TW_plain rfl rfl ?_ | refine TW_gmet rfl rfl rfl rfl ?_); first | refine TN_val (qp rfl) rfl rfl ?_ | refine TN_val (rr_load1 TyC.ty rfl (at_blk (i := 0) rfl rfl)) rfl rfl ?_ | refine TN_val (rr_load1 TyC.ty rfl (h4 _)) rfl rfl ?_ | refine TN_val (rr_build rfl (build_span _ _ _)) rfl rfl ?_ | refine TN_val (rr_lookM (x := (m, (a : Int), (b : Int))) spanK Und.eq zero_int (hmp _) rfl rfl (span_ok hx (by omega) (by omega)) rfl) rfl rfl ?_ | refine TN_val (qfld FldC.fld rfl rfl) rfl rfl ?_ | refine TN_val (rr_nilc rfl) rfl rfl ?_ | refine TN_val (rr_eql rfl rfl (qT (by omega))) rfl rfl ?_ | refine TN_val (rr_eql rfl rfl (qF (by omega))) rfl rfl ?_ | refine TN_val (rr_add64 rfl rfl (by omega) (by omega) rfl) rfl rfl ?_)
      | refine TW_skip rfl rfl rfl rfl rfl rfl rfl ?_ | refine TW_done ?_)
    repeat (first
      | refine qv rfl (qp rfl) rfl rfl ?_ | refine TL_nil ?_ | refine T_seq ?_ | refine T_region ?_ | refine qcT rfl ?_ | refine qcF rfl ?_ | refine T_skip ?_
      | refine T_ret ?_ | refine E_then ?_ | refine E_thenR ?_ | refine qs rfl rfl rfl rfl rfl rfl ?_
      | ((try refine qg rfl rfl rfl ?_); first | refine qv rfl (qp rfl) rfl rfl ?_ | refine qv rfl (qfld FldC.fld rfl rfl) rfl rfl ?_ | refine qv rfl (rr_nilc rfl) rfl rfl ?_ | refine qv rfl (rr_eql rfl rfl (qT (by omega))) rfl rfl ?_ | refine qv rfl (rr_eql rfl rfl (qF (by omega))) rfl rfl ?_ | refine qv rfl (rr_add64 rfl rfl (by omega) (by omega) rfl) rfl rfl ?_))
    exact E_ret1 rfl rfl fun w hm => hm.ret
  · rw [if_neg c1]
    by_cases c2 : b = a + 1
    · have hlt : a < word.length := by omega
      obtain ⟨b', off, rfl, hr⟩ := h7 (by omega)
      have hat := fun L => at_int (L := L) hr hlt
      rw [List.getElem?_eq_getElem hlt]
      generalize word[a] = y at *
      by_cases c3 : y = m
      · rw [if_pos ⟨c2, by rw [c3]⟩]
        repeat (first
          | refine qv rfl (qp rfl) rfl rfl ?_ | refine TL_nil ?_ | refine T_seq ?_ | refine T_region ?_ | refine qcT rfl ?_ | refine qcF rfl ?_ | refine T_skip ?_
          | refine T_ret ?_ | refine E_then ?_ | refine E_thenR ?_ | refine qs rfl rfl rfl rfl rfl rfl ?_
          | ((try refine qg rfl rfl rfl ?_); first | refine qv rfl (qp rfl) rfl rfl ?_ | refine qv rfl (rr_load1 TyC.ty rfl (at_blk (i := 0) rfl rfl)) rfl rfl ?_ | refine qv rfl (qfld FldC.fld rfl rfl) rfl rfl ?_ | refine qv rfl (rr_nilc rfl) rfl rfl ?_ | refine qv rfl (rr_eql rfl rfl (qT (by omega))) rfl rfl ?_ | refine qv rfl (rr_eql rfl rfl (qF (by omega))) rfl rfl ?_ | refine qv rfl (rr_add64 rfl rfl (by omega) (by omega) rfl) rfl rfl ?_))
        refine T_ord ([blkO g5 (symC (q, m)).toArray 58]) (.calm 0 (.calm 1 (.calm 2 (.calm 3 (.calm 4 (.calm 5 (.calm 6 (.calm 7 (.calm 8 (.calm 9 (.calm 10 (.calm 11 (.calm 12 (.calm 13 (.calm 14 (.calm 15 (.done))))))))))))))))) (fun _ h => h) (by kernel_rfl) (by kernel_rfl) (by intro c a d v w h; cases d <;> exact h) ?_
        repeat (first
          | ((first | refine TW_plain rfl rfl ?_ | refine TW_gmet rfl rfl rfl rfl ?_); first | refine TN_val (qp rfl) rfl rfl ?_ | refine TN_val (rr_load1 TyC.ty rfl (at_blk (i := 0) rfl rfl)) rfl rfl ?_ | refine TN_val (rr_load1 TyC.ty rfl (h3 _)) rfl rfl ?_ | refine TN_val (rr_load1 TyC.ty rfl (hat _)) rfl rfl ?_ | refine TN_val (qfld FldC.fld rfl rfl) rfl rfl ?_ | refine TN_val (rr_nilc rfl) rfl rfl ?_ | refine TN_val (rr_eql rfl rfl (qT (by omega))) rfl rfl ?_ | refine TN_val (rr_eql rfl rfl (qF (by omega))) rfl rfl ?_ | refine TN_val (rr_add64 rfl rfl (by omega) (by omega) rfl) rfl rfl ?_ | refine TN_val (rr_idx1 Und.eq TyC.ty rfl rfl hlt) rfl rfl ?_)
          | refine TW_skip rfl rfl rfl rfl rfl rfl rfl ?_ | refine TW_done ?_)
        repeat (first
          | refine qv rfl (qp rfl) rfl rfl ?_ | refine TL_nil ?_ | refine T_seq ?_ | refine T_region ?_ | refine qcT rfl ?_ | refine qcF rfl ?_ | refine T_skip ?_
          | refine T_ret ?_ | refine E_then ?_ | refine E_thenR ?_ | refine qs rfl rfl rfl rfl rfl rfl ?_
          | ((try refine qg rfl rfl rfl ?_); first | refine qv rfl (qp rfl) rfl rfl ?_ | refine qv rfl (qfld FldC.fld rfl rfl) rfl rfl ?_ | refine qv rfl (rr_nilc rfl) rfl rfl ?_ | refine qv rfl (rr_eql rfl rfl (qT (by omega))) rfl rfl ?_ | refine qv rfl (rr_eql rfl rfl (qF (by omega))) rfl rfl ?_ | refine qv rfl (rr_add64 rfl rfl (by omega) (by omega) rfl) rfl rfl ?_))
        exact E_ret1 rfl rfl fun w hm => hm.ret
      · rw [if_neg (fun h => c3 (by simpa using h.2))]
        repeat (first
          | refine qv rfl (qp rfl) rfl rfl ?_ | refine TL_nil ?_ | refine T_seq ?_ | refine T_region ?_ | refine qcT rfl ?_ | refine qcF rfl ?_ | refine T_skip ?_
          | refine T_ret ?_ | refine E_then ?_ | refine E_thenR ?_ | refine qs rfl rfl rfl rfl rfl rfl ?_
          | ((try refine qg rfl rfl rfl ?_); first | refine qv rfl (qp rfl) rfl rfl ?_ | refine qv rfl (rr_load1 TyC.ty rfl (at_blk (i := 0) rfl rfl)) rfl rfl ?_ | refine qv rfl (qfld FldC.fld rfl rfl) rfl rfl ?_ | refine qv rfl (rr_nilc rfl) rfl rfl ?_ | refine qv rfl (rr_eql rfl rfl (qT (by omega))) rfl rfl ?_ | refine qv rfl (rr_eql rfl rfl (qF (by omega))) rfl rfl ?_ | refine qv rfl (rr_add64 rfl rfl (by omega) (by omega) rfl) rfl rfl ?_))
        refine T_ord ([blkO g5 (symC (q, m)).toArray 58]) (.calm 0 (.calm 1 (.calm 2 (.calm 3 (.calm 4 (.calm 5 (.calm 6 (.calm 7 (.calm 8 (.calm 9 (.calm 10 (.calm 11 (.calm 12 (.calm 13 (.calm 14 (.calm 15 (.done))))))))))))))))) (fun _ h => h) (by kernel_rfl) (by kernel_rfl) (by intro c a d v w h; cases d <;> exact h) ?_
        repeat (first
          | ((first | refine TW_plain rfl rfl ?_ | refine TW_gmet rfl rfl rfl rfl ?_); first | refine TN_val (qp rfl) rfl rfl ?_ | refine TN_val (rr_load1 TyC.ty rfl (at_blk (i := 0) rfl rfl)) rfl rfl ?_ | refine TN_val (rr_load1 TyC.ty rfl (h3 _)) rfl rfl ?_ | refine TN_val (rr_load1 TyC.ty rfl (hat _)) rfl rfl ?_ | refine TN_val (qfld FldC.fld rfl rfl) rfl rfl ?_ | refine TN_val (rr_nilc rfl) rfl rfl ?_ | refine TN_val (rr_eql rfl rfl (qT (by omega))) rfl rfl ?_ | refine TN_val (rr_eql rfl rfl (qF (by omega))) rfl rfl ?_ | refine TN_val (rr_add64 rfl rfl (by omega) (by omega) rfl) rfl rfl ?_ | refine TN_val (rr_idx1 Und.eq TyC.ty rfl rfl hlt) rfl rfl ?_)
          | refine TW_skip rfl rfl rfl rfl rfl rfl rfl ?_ | refine TW_done ?_)
        repeat (first
          | refine qv rfl (qp rfl) rfl rfl ?_ | refine TL_nil ?_ | refine T_seq ?_ | refine T_region ?_ | refine qcT rfl ?_ | refine qcF rfl ?_ | refine T_skip ?_
          | refine T_ret ?_ | refine E_then ?_ | refine E_thenR ?_ | refine qs rfl rfl rfl rfl rfl rfl ?_
          | ((try refine qg rfl rfl rfl ?_); first | refine qv rfl (qp rfl) rfl rfl ?_ | refine qv rfl (qfld FldC.fld rfl rfl) rfl rfl ?_ | refine qv rfl (rr_nilc rfl) rfl rfl ?_ | refine qv rfl (rr_eql rfl rfl (qT (by omega))) rfl rfl ?_ | refine qv rfl (rr_eql rfl rfl (qF (by omega))) rfl rfl ?_ | refine qv rfl (rr_add64 rfl rfl (by omega) (by omega) rfl) rfl rfl ?_))
        exact E_ret1 rfl rfl fun w hm => hm.ret
    · rw [if_neg (fun h => c2 h.1)]
      repeat (first
        | refine qv rfl (qp rfl) rfl rfl ?_ | refine TL_nil ?_ | refine T_seq ?_ | refine T_region ?_ | refine qcT rfl ?_ | refine qcF rfl ?_ | refine T_skip ?_
        | refine T_ret ?_ | refine E_then ?_ | refine E_thenR ?_ | refine qs rfl rfl rfl rfl rfl rfl ?_
        | ((try refine qg rfl rfl rfl ?_); first | refine qv rfl (qp rfl) rfl rfl ?_ | refine qv rfl (rr_load1 TyC.ty rfl (at_blk (i := 0) rfl rfl)) rfl rfl ?_ | refine qv rfl (qfld FldC.fld rfl rfl) rfl rfl ?_ | refine qv rfl (rr_nilc rfl) rfl rfl ?_ | refine qv rfl (rr_eql rfl rfl (qT (by omega))) rfl rfl ?_ | refine qv rfl (rr_eql rfl rfl (qF (by omega))) rfl rfl ?_ | refine qv rfl (rr_add64 rfl rfl (by omega) (by omega) rfl) rfl rfl ?_))
      refine T_ord ([blkO g5 (symC (q, m)).toArray 58]) (.calm 0 (.calm 1 (.calm 2 (.calm 3 (.calm 4 (.calm 5 (.calm 6 (.calm 7 (.calm 8 (.calm 9 (.calm 10 (.calm 11 (.calm 12 (.calm 13 (.calm 14 (.calm 15 (.done))))))))))))))))) (fun _ h => h) (by kernel_rfl) (by kernel_rfl) (by intro c a d v w h; cases d <;> exact h) ?_
      repeat (first
        | ((first | refine TW_plain rfl rfl ?_ | refine TW_gmet rfl rfl rfl rfl ?_); first | refine TN_val (qp rfl) rfl rfl ?_ | refine TN_val (rr_load1 TyC.ty rfl (at_blk (i := 0) rfl rfl)) rfl rfl ?_ | refine TN_val (qfld FldC.fld rfl rfl) rfl rfl ?_ | refine TN_val (rr_nilc rfl) rfl rfl ?_ | refine TN_val (rr_eql rfl rfl (qT (by omega))) rfl rfl ?_ | refine TN_val (rr_eql rfl rfl (qF (by omega))) rfl rfl ?_ | refine TN_val (rr_add64 rfl rfl (by omega) (by omega) rfl) rfl rfl ?_)
        | refine TW_skip rfl rfl rfl rfl rfl rfl rfl ?_ | refine TW_done ?_)
      repeat (first
        | refine qv rfl (qp rfl) rfl rfl ?_ | refine TL_nil ?_ | refine T_seq ?_ | refine T_region ?_ | refine qcT rfl ?_ | refine qcF rfl ?_ | refine T_skip ?_
        | refine T_ret ?_ | refine E_then ?_ | refine E_thenR ?_ | refine qs rfl rfl rfl rfl rfl rfl ?_
        | ((try refine qg rfl rfl rfl ?_); first | refine qv rfl (qp rfl) rfl rfl ?_ | refine qv rfl (qfld FldC.fld rfl rfl) rfl rfl ?_ | refine qv rfl (rr_nilc rfl) rfl rfl ?_ | refine qv rfl (rr_eql rfl rfl (qT (by omega))) rfl rfl ?_ | refine qv rfl (rr_eql rfl rfl (qF (by omega))) rfl rfl ?_ | refine qv rfl (rr_add64 rfl rfl (by omega) (by omega) rfl) rfl rfl ?_))
      exact E_ret1 rfl rfl fun w hm => hm.ret
end Go.Proofs.Ytnicebdkejkieaa.eng
