/- Part 6 of what LexerCovers needs: LexA, LexB, SmBk, LexN, Abc, LexV, LexerCoversW. -/
import Derived.Test.YteejnamdpdfocaaMgE
import Derived.WalkKit
import Derived.WalkSpells
import Derived.WalkLawsBesides
import Derived.Deep.RegionLaw
import Derived.Deep.AppendLies
import Derived.Deep.QuietTactic
import Derived.BigQuiet
import Derived.Deep.DeepCutAuto
import Derived.Lib.Hide
import Derived.Test.YteejnamdpdfocaaRows
import Derived.ProofKit
import Derived.OpenShut
import Derived.ShutString
import Derived.SizedLaws
import Derived.JoinedCond
import Derived.Deep.CondSized
import Derived.Deep.Quiet
import Derived.StillTail
import Derived.Deep.LoopGhost
import Derived.Laws.BitsLemmas
import Derived.Laws.BytesString
import Derived.Test.YteejnamdpdfocaaProg
import Derived.Laws.StructEq
import Derived.Laws.MakeOwn
import Derived.Laws.AppendOwn
import Derived.Maps.OwnSet
import Derived.DeepKeys4
import Derived.WideKeyEntry
import Derived.Laws.Entries
import Derived.Shelf.Sort.Plain
import Derived.Ground.Names2Prog
import Derived.Shelf.Slices.CompactI
import Derived.Shelf.Slices.In.SortNone
import Derived.Lib.RowBridge
import Derived.Laws.BitsAllLaws
import Derived.Lib.TrailingZeros
import Derived.Lib.SlicesCompact
import Derived.ChangeKeysEq
import Derived.Laws.Bits64b
/- LexA -/
namespace Go.Proofs.Yteejnamdpdfocaa.eng
open Go.RowKit kit mix smallL lexL
theorem of_toB {vn vt : Value} (o : Of) (b : UInt8) : (pkC o vn vt).toArray[0 + b.toNat]? = some (.int .u8 ((o[b.toNat]'b.toNat_lt : Nat) : Int)) := by
  rw [Nat.zero_add]; exact pk_of o vn vt b.toNat_lt
set_option maxHeartbeats 4000000 in
theorem lexCheck_calls (o : Of) (vn vt : Value) (N : List (List Int)) (tags : List Int) (s : List UInt8) (w : World) (h : PkI w vn vt N tags) (ho : ∀ b (h : b < 256), o[b] < 256) (hs : s.length ≤ 9223372036854775807) :
    Calls Try.prog 10 #[pkV o vn vt, str s] w (Meets (ret (.int .i64 (if chkP o N tags ≠ 0 then chkP o N tags else if 2000 < s.length then 2 else 0))) w) := by
  have hck := fun w' (hg : Gr w w') => pkChk_calls o vn vt N tags w' (h.gr hg) ho
  obtain ⟨⟨an, cn, rfl, -⟩, at', ct, rfl, -⟩ := h
  generalize chkP o N tags = e at *
  refine enter (args := [pkV o (.slice an N.length cn) (.slice at' tags.length ct), str s]) (n := 14) Try.func10 rfl rfl rfl ?_
  refine T_seq (T_region (TL_box rfl rfl rfl fun g2 => ?_))
  conv => arg 8; simp only [zA, zB, zC, zD, zE, zF, zG, zH, zI, rowS, ret, id_eq]
  repeat (first
    | refine qv rfl (qp rfl) rfl rfl ?_ | refine TL_nil ?_ | refine T_seq ?_ | refine T_region ?_ | refine qcT rfl ?_ | refine qcF rfl ?_ | refine T_skip ?_
    | refine T_ret ?_ | refine E_then ?_ | refine E_thenR ?_ | refine qv rfl (rr_loadB (i := 0) TyC.ty rfl rfl (pk_size _ _ _)) rfl rfl ?_
    | refine qv rfl (rr_strlen Und.eq rfl) rfl rfl ?_ | refine qv rfl (rr_gtr rfl rfl (qT (by omega))) rfl rfl ?_
    | refine qv rfl (rr_gtr rfl rfl (qF (by omega))) rfl rfl ?_ | refine qv rfl (rr_neq rfl rfl (qT (by omega))) rfl rfl ?_
    | refine qv rfl (rr_neq rfl rfl (qF (by omega))) rfl rfl ?_)
  refine TL_call (he1 EntersC.en rfl rfl) (fun w hm => hck _ hm.below) rfl rfl rfl ?_
  intro _ _
  conv => arg 8; simp only [zA, zB, zC, zD, zE, zF, zG, zH, zI, rowS, ret, id_eq]
  by_cases c1 : e = 0
  · rw [if_neg (by simpa using c1)]
    by_cases c2 : 2000 < s.length
    · rw [if_pos c2]
      repeat (first
        | refine qv rfl (qp rfl) rfl rfl ?_ | refine TL_nil ?_ | refine T_seq ?_ | refine T_region ?_ | refine qcT rfl ?_ | refine qcF rfl ?_ | refine T_skip ?_
        | refine T_ret ?_ | refine E_then ?_ | refine E_thenR ?_ | refine qv rfl (rr_neq (b := false) rfl rfl (decide_eq_false (by simpa using c1))) rfl rfl ?_
        | refine qv rfl (rr_gtr (b := true) rfl rfl (decide_eq_true (by omega))) rfl rfl ?_ | refine qv rfl (rr_strlen Und.eq rfl) rfl rfl ?_
        | refine qv rfl (rr_gtr rfl rfl (qT (by omega))) rfl rfl ?_ | refine qv rfl (rr_gtr rfl rfl (qF (by omega))) rfl rfl ?_
        | refine qv rfl (rr_neq rfl rfl (qT (by omega))) rfl rfl ?_ | refine qv rfl (rr_neq rfl rfl (qF (by omega))) rfl rfl ?_)
      exact E_ret1e rfl rfl rfl
    · rw [if_neg c2]
      repeat (first
        | refine qv rfl (qp rfl) rfl rfl ?_ | refine TL_nil ?_ | refine T_seq ?_ | refine T_region ?_ | refine qcT rfl ?_ | refine qcF rfl ?_ | refine T_skip ?_
        | refine T_ret ?_ | refine E_then ?_ | refine E_thenR ?_ | refine qv rfl (rr_neq (b := false) rfl rfl (decide_eq_false (by simpa using c1))) rfl rfl ?_
        | refine qv rfl (rr_gtr (b := false) rfl rfl (decide_eq_false (by omega))) rfl rfl ?_ | refine qv rfl (rr_strlen Und.eq rfl) rfl rfl ?_
        | refine qv rfl (rr_gtr rfl rfl (qT (by omega))) rfl rfl ?_ | refine qv rfl (rr_gtr rfl rfl (qF (by omega))) rfl rfl ?_
        | refine qv rfl (rr_neq rfl rfl (qT (by omega))) rfl rfl ?_ | refine qv rfl (rr_neq rfl rfl (qF (by omega))) rfl rfl ?_)
      exact E_ret1e rfl rfl rfl
  · rw [if_pos c1]
    repeat (first
      | refine qv rfl (qp rfl) rfl rfl ?_ | refine TL_nil ?_ | refine T_seq ?_ | refine T_region ?_ | refine qcT rfl ?_ | refine qcF rfl ?_ | refine T_skip ?_
      | refine T_ret ?_ | refine E_then ?_ | refine E_thenR ?_ | refine qv rfl (rr_neq (b := true) rfl rfl (decide_eq_true c1)) rfl rfl ?_
      | refine qv rfl (rr_strlen Und.eq rfl) rfl rfl ?_ | refine qv rfl (rr_gtr rfl rfl (qT (by omega))) rfl rfl ?_
      | refine qv rfl (rr_gtr rfl rfl (qF (by omega))) rfl rfl ?_ | refine qv rfl (rr_neq rfl rfl (qT (by omega))) rfl rfl ?_
      | refine qv rfl (rr_neq rfl rfl (qF (by omega))) rfl rfl ?_)
    exact E_ret1e rfl rfl rfl
def tokC (t : Tok) : List Value := [.int .i64 t.1, .int .i64 (t.2.1 : Int), .int .i64 (t.2.2 : Int)]
theorem tokC_len (t : Tok) : (tokC t).length = 3 := rfl
theorem build_tokF (f : Nat) (w : World) : (Instr.build 33 #[(1, .int .i64 (f : Int))]).run Try.prog w = .ok (.agg (tokC (0, f, 0)).toArray) w := by
  unfold tokC; go_simp
theorem build_tok0 (w : World) : (Instr.build 33 (#[] : Array (Nat × Value))).run Try.prog w = .ok (.agg (tokC (0, 0, 0)).toArray) w := by kernel_rfl
/-- what one answers -/
def oneA (fr : Nat) (x : Int × Nat) : Value := if x.2 = 0 then .tuple #[.agg (tokC (0, 0, 0)).toArray, .bool false] else .tuple #[.agg (tokC (x.1, fr, x.2)).toArray, .bool true]
set_option maxHeartbeats 8000000 in
theorem lexOne_calls (o : Of) (vn vt : Value) (N : List (List Int)) (tags : List Int) (s : List UInt8) (fr : Nat) (w : World) (h : PkI w vn vt N tags) (hg : PkGood o N tags) (hs : s.length ≤ 1000000) (hf : fr ≤ s.length) :
    Calls Try.prog 11 #[pkV o vn vt, str s, .int .i64 (fr : Int)] w (Meets (ret (oneA fr (oneF o N tags s fr))) w) := by
  have hnx := fun {q} hq b => nxP_in hg (q := q) hq b
  have hpos := hg.pos
  have hlen := hg.len
  have htag := hg.tag
  obtain ⟨⟨an, cn, rfl, hn1, hn2, hn3⟩, at', ct, rfl, ht1, ht2, ht3⟩ := h
  unfold maxLen at hn2 ht2
  obtain ⟨bn, offn, rfl, _, hnd⟩ := hn3 (by omega)
  obtain ⟨bt, offt, rfl, htd⟩ := ht3 (by omega)
  clear hn3 ht3 hg
  have hbt := build_tokF fr
  have hb0 := build_tok0
  refine enter (args := [pkV o (.slice (some ⟨bn, offn, none⟩) N.length cn) (.slice (some ⟨bt, offt, none⟩) tags.length ct), str s, .int .i64 (fr : Int)]) (n := 55) Try.func11 rfl rfl rfl ?_
  refine T_seq (T_region (TL_box rfl rfl rfl fun g3 => TL_new rfl fun g6 => ?_))
  conv => arg 8; simp only [zA, zB, zC, zD, zE, zF, zG, zH, zI, rowS, ret, id_eq]
  repeat (first
    | refine qv rfl (qp rfl) rfl rfl ?_ | refine TL_nil ?_ | refine T_seq ?_ | refine T_region ?_ | refine qcT rfl ?_ | refine qcF rfl ?_ | refine T_skip ?_
    | refine T_exit ?_ | refine T_ret ?_ | refine T_block ?_ | refine E_then ?_ | refine E_thenX ?_ | refine E_thenR ?_ | refine E_blockN ?_
    | refine E_blockR ?_ | refine E_blockX ?_ | refine E_blockO rfl ?_ | refine qv rfl (rr_build rfl hbt) rfl rfl ?_
    | refine qv rfl (rr_strlen Und.eq rfl) rfl rfl ?_ | refine qv rfl (qfld FldC.fld rfl rfl) rfl rfl ?_
    | refine qv rfl (rr_lss rfl rfl (qT (by omega))) rfl rfl ?_ | refine qv rfl (rr_lss rfl rfl (qF (by omega))) rfl rfl ?_
    | refine qv rfl (rr_geq rfl rfl (qT (by omega))) rfl rfl ?_ | refine qv rfl (rr_geq rfl rfl (qF (by omega))) rfl rfl ?_
    | refine qv rfl (rr_eql rfl rfl (qT (by omega))) rfl rfl ?_ | refine qv rfl (rr_eql rfl rfl (qF (by omega))) rfl rfl ?_
    | refine qv rfl (rr_add64 rfl rfl (by omega) (by omega) rfl) rfl rfl ?_)
  refine TL_new rfl fun g9 => ?_
  conv => arg 8; simp only [zA, zB, zC, zD, zE, zF, zG, zH, zI, rowS, ret, id_eq]
  refine TL_storeB (i := 2) (cs' := (tokC (0, fr, 0)).toArray) rfl rfl rfl rfl rfl rfl ?_
  conv => arg 8; simp only [zA, zB, zC, zD, zE, zF, zG, zH, zI, rowS, ret, id_eq]
  repeat (first
    | refine qv rfl (qp rfl) rfl rfl ?_ | refine TL_nil ?_ | refine T_seq ?_ | refine T_region ?_ | refine qcT rfl ?_ | refine qcF rfl ?_ | refine T_skip ?_
    | refine T_exit ?_ | refine T_ret ?_ | refine T_block ?_ | refine E_then ?_ | refine E_thenX ?_ | refine E_thenR ?_ | refine E_blockN ?_
    | refine E_blockR ?_ | refine E_blockX ?_ | refine E_blockO rfl ?_ | refine qv rfl (rr_strlen Und.eq rfl) rfl rfl ?_
    | refine qv rfl (qfld FldC.fld rfl rfl) rfl rfl ?_ | refine qv rfl (rr_lss rfl rfl (qT (by omega))) rfl rfl ?_
    | refine qv rfl (rr_lss rfl rfl (qF (by omega))) rfl rfl ?_ | refine qv rfl (rr_geq rfl rfl (qT (by omega))) rfl rfl ?_
    | refine qv rfl (rr_geq rfl rfl (qF (by omega))) rfl rfl ?_ | refine qv rfl (rr_eql rfl rfl (qT (by omega))) rfl rfl ?_
    | refine qv rfl (rr_eql rfl rfl (qF (by omega))) rfl rfl ?_ | refine qv rfl (rr_add64 rfl rfl (by omega) (by omega) rfl) rfl rfl ?_)
  unfold oneF
  generalize hfin : oneGo o N tags (s.drop fr) fr 0 0 0 = fin
  refine T_loop (ι := Nat × Nat × Int × Nat) (fun (i, now, r, t) => i ≤ s.length ∧ now < N.length ∧ t ≤ i ∧ oneGo o N tags (s.drop i) i (now : Int) r t = fin) (fun (i, now, _, _) => [(1, str s), (3, .pointer (some ⟨g3, 0, none⟩)), (6, .pointer (some ⟨g6, 0, none⟩)), (8, .int .i64 (now : Int)), (9, .pointer (some ⟨g9, 0, none⟩)), (10, .int .i64 (i : Int))])
    (fun (_, _, r, t) => [blkO g3 (pkC o (.slice (some ⟨bn, offn, none⟩) N.length cn) (.slice (some ⟨bt, offt, none⟩) tags.length ct)).toArray 26, blkO g6 (tokC (0, 0, 0)).toArray 33, blkO g9 (tokC (r, fr, t)).toArray 33]) (fun (i, _, _, _) => s.length - i) (fr, 0, 0, 0) ⟨hf, hpos, Nat.zero_le _, hfin⟩ (by repeat' (first | exact True.intro | refine And.intro rfl ?_)) rfl ?_
  rintro ⟨i, now, r, t⟩ ⟨i1, i2, i3, i4⟩
  dsimp only at i1 i2 i3 i4 ⊢
  by_cases c1 : i < s.length
  · rw [List.drop_eq_getElem_cons c1, oneGo_cons] at i4
    obtain ⟨_, hw, hx0, hx1, hx2⟩ := hnx i2 s[i]
    have hb : s[(i : Int).toNat]? = some s[i] := by rw [Int.toNat_natCast]; exact List.getElem?_eq_getElem c1
    have hcell := of_toB (vn := .slice (some ⟨bn, offn, none⟩) N.length cn) (vt := .slice (some ⟨bt, offt, none⟩) tags.length ct) o s[i]
    have hb8 := s[i].toNat_lt
    obtain ⟨u, ⟨au, cu, rfl, hcu, hmu, hru⟩, hdu⟩ := fol_at hnd i2
    have hatN := fun (L : List Own) => at_rd (L := L) hdu (j := 0) (v := .slice au N[now].length cu) rfl
    obtain ⟨bu, offu, rfl, hrd⟩ := hru (by omega)
    have hatU := fun (L : List Own) => at_el (L := L) SmIn_len hrd hw 0 _ rfl
    have hatU' : ∀ (L : List Own), At (w : Base) L ⟨bu, offu + o[s[i].toNat] * 1 + 0, none⟩ (.int .i64 (nxP o N (now : Int) s[i])) := fun L => by rw [hx0]; exact hatU L
    clear hdu hrd hru hatU hx0 hfin hnd
    generalize s[i] = b at *
    generalize o[b.toNat] = ob at *
    generalize nxP o N (now : Int) b = x at *
    generalize N[now].length = wd at *
    repeat (first
      | refine qv rfl (qp rfl) rfl rfl ?_ | refine TL_nil ?_ | refine T_seq ?_ | refine T_region ?_ | refine qcT rfl ?_ | refine qcF rfl ?_ | refine T_skip ?_
      | refine T_exit ?_ | refine T_ret ?_ | refine T_block ?_ | refine E_then ?_ | refine E_thenX ?_ | refine E_thenR ?_ | refine E_blockN ?_
      | refine E_blockR ?_ | refine E_blockX ?_ | refine E_blockO rfl ?_ | refine qv rfl (rr_strlen Und.eq rfl) rfl rfl ?_
      | refine qv rfl (qfld FldC.fld rfl rfl) rfl rfl ?_ | refine qv rfl (rr_lss rfl rfl (qT (by omega))) rfl rfl ?_
      | refine qv rfl (rr_lss rfl rfl (qF (by omega))) rfl rfl ?_ | refine qv rfl (rr_geq rfl rfl (qT (by omega))) rfl rfl ?_
      | refine qv rfl (rr_geq rfl rfl (qF (by omega))) rfl rfl ?_ | refine qv rfl (rr_eql rfl rfl (qT (by omega))) rfl rfl ?_
      | refine qv rfl (rr_eql rfl rfl (qF (by omega))) rfl rfl ?_ | refine qv rfl (rr_add64 rfl rfl (by omega) (by omega) rfl) rfl rfl ?_)
    refine T_ord ([blkO g3 (pkC o (.slice (some ⟨bn, offn, none⟩) N.length cn) (.slice (some ⟨bt, offt, none⟩) tags.length ct)).toArray 26]) (.calm 0 (.calm 1 (.calm 2 (.calm 3 (.calm 4 (.calm 5 (.calm 6 (.calm 7 (.calm 8 (.calm 9 (.calm 10 (.calm 11 (.calm 12 (.calm 13 (.done))))))))))))))) (sub_pick [0] (by decide) rfl) (by kernel_rfl) (by kernel_rfl) (by intro c a d v w h; cases d <;> exact h) ?_
    repeat (first
      | ((first | refine TW_plain rfl rfl ?_ | refine TW_gmet rfl rfl rfl rfl ?_); first | refine TN_val (qp rfl) rfl rfl ?_ | refine TN_val (rr_load1 TyC.ty rfl (at_blk (i := 0) rfl (pk_next _ _ _))) rfl rfl ?_ | refine TN_val (rr_idxc (j := now) Und.eq TyC.ty rfl rfl i2) rfl rfl ?_ | refine TN_val (rr_load1 TyC.ty rfl (hatN _)) rfl rfl ?_ | refine TN_val (rr_stridx Und.eq rfl rfl (by omega) hb) rfl rfl ?_ | refine TN_val (rr_aidx1 Und.eq TyC.ty rfl rfl hb8) rfl rfl ?_ | refine TN_val (rr_load1 TyC.ty rfl (at_blk (i := 0) rfl hcell)) rfl rfl ?_ | refine TN_val (rr_idxc (j := ob) Und.eq TyC.ty rfl rfl hw) rfl rfl ?_ | refine TN_val (rr_load1 TyC.ty rfl (hatU' _)) rfl rfl ?_ | refine TN_val (rr_strlen Und.eq rfl) rfl rfl ?_ | refine TN_val (qfld FldC.fld rfl rfl) rfl rfl ?_ | refine TN_val (rr_lss rfl rfl (qT (by omega))) rfl rfl ?_ | refine TN_val (rr_lss rfl rfl (qF (by omega))) rfl rfl ?_ | refine TN_val (rr_geq rfl rfl (qT (by omega))) rfl rfl ?_ | refine TN_val (rr_geq rfl rfl (qF (by omega))) rfl rfl ?_ | refine TN_val (rr_eql rfl rfl (qT (by omega))) rfl rfl ?_ | refine TN_val (rr_eql rfl rfl (qF (by omega))) rfl rfl ?_ | refine TN_val (rr_add64 rfl rfl (by omega) (by omega) rfl) rfl rfl ?_)
      | refine TW_done ?_)
    by_cases q1 : x < 0
    · rw [if_pos q1] at i4
      subst i4
      unfold oneA
      by_cases e1 : t = 0
      · subst e1
        rw [if_pos rfl]
        repeat (first
          | refine qv rfl (qp rfl) rfl rfl ?_ | refine TL_nil ?_ | refine T_seq ?_ | refine T_region ?_ | refine qcT rfl ?_ | refine qcF rfl ?_ | refine T_skip ?_
          | refine T_exit ?_ | refine T_ret ?_ | refine T_block ?_ | refine E_then ?_ | refine E_thenX ?_ | refine E_thenR ?_ | refine E_blockN ?_
          | refine E_blockR ?_ | refine E_blockX ?_ | refine E_blockO rfl ?_ | refine qv rfl (rr_lss (b := true) rfl rfl (decide_eq_true q1)) rfl rfl ?_
          | refine qv rfl (rr_load1 (v := .int .i64 ((0 : Nat) : Int)) TyC.ty rfl (at_blk (i := 2) rfl rfl)) rfl rfl ?_
          | refine qv rfl (rr_eql (b := true) rfl rfl (decide_eq_true (by simp))) rfl rfl ?_ | refine qv rfl (rr_build rfl hb0) rfl rfl ?_
          | refine qv rfl (rr_strlen Und.eq rfl) rfl rfl ?_ | refine qv rfl (qfld FldC.fld rfl rfl) rfl rfl ?_
          | refine qv rfl (rr_lss rfl rfl (qT (by omega))) rfl rfl ?_ | refine qv rfl (rr_lss rfl rfl (qF (by omega))) rfl rfl ?_
          | refine qv rfl (rr_geq rfl rfl (qT (by omega))) rfl rfl ?_ | refine qv rfl (rr_geq rfl rfl (qF (by omega))) rfl rfl ?_
          | refine qv rfl (rr_eql rfl rfl (qT (by omega))) rfl rfl ?_ | refine qv rfl (rr_eql rfl rfl (qF (by omega))) rfl rfl ?_
          | refine qv rfl (rr_add64 rfl rfl (by omega) (by omega) rfl) rfl rfl ?_)
        refine TL_storeB (i := 1) (cs' := (tokC (0, 0, 0)).toArray) rfl rfl rfl rfl rfl rfl ?_
        conv => arg 8; simp only [zA, zB, zC, zD, zE, zF, zG, zH, zI, rowS, ret, id_eq]
        repeat (first
          | refine qv rfl (qp rfl) rfl rfl ?_ | refine TL_nil ?_ | refine T_seq ?_ | refine T_region ?_ | refine qcT rfl ?_ | refine qcF rfl ?_ | refine T_skip ?_
          | refine T_exit ?_ | refine T_ret ?_ | refine T_block ?_ | refine E_then ?_ | refine E_thenX ?_ | refine E_thenR ?_ | refine E_blockN ?_
          | refine E_blockR ?_ | refine E_blockX ?_ | refine E_blockO rfl ?_ | refine qv rfl (rr_strlen Und.eq rfl) rfl rfl ?_
          | refine qv rfl (qfld FldC.fld rfl rfl) rfl rfl ?_ | refine qv rfl (rr_lss rfl rfl (qT (by omega))) rfl rfl ?_
          | refine qv rfl (rr_lss rfl rfl (qF (by omega))) rfl rfl ?_ | refine qv rfl (rr_geq rfl rfl (qT (by omega))) rfl rfl ?_
          | refine qv rfl (rr_geq rfl rfl (qF (by omega))) rfl rfl ?_ | refine qv rfl (rr_eql rfl rfl (qT (by omega))) rfl rfl ?_
          | refine qv rfl (rr_eql rfl rfl (qF (by omega))) rfl rfl ?_ | refine qv rfl (rr_add64 rfl rfl (by omega) (by omega) rfl) rfl rfl ?_)
        exact E_retc2 (i := 1) rfl rfl rfl rfl rfl fun w hm => hm.ret
      · rw [if_neg e1]
        repeat (first
          | refine qv rfl (qp rfl) rfl rfl ?_ | refine TL_nil ?_ | refine T_seq ?_ | refine T_region ?_ | refine qcT rfl ?_ | refine qcF rfl ?_ | refine T_skip ?_
          | refine T_exit ?_ | refine T_ret ?_ | refine T_block ?_ | refine E_then ?_ | refine E_thenX ?_ | refine E_thenR ?_ | refine E_blockN ?_
          | refine E_blockR ?_ | refine E_blockX ?_ | refine E_blockO rfl ?_ | refine qv rfl (rr_lss (b := true) rfl rfl (decide_eq_true q1)) rfl rfl ?_
          | refine qv rfl (rr_load1 (v := .int .i64 (t : Int)) TyC.ty rfl (at_blk (i := 2) rfl rfl)) rfl rfl ?_
          | refine qv rfl (rr_eql (b := false) rfl rfl (decide_eq_false (by omega))) rfl rfl ?_ | refine qv rfl (rr_loadB (i := 2) TyC.ty rfl rfl rfl) rfl rfl ?_
          | refine qv rfl (rr_strlen Und.eq rfl) rfl rfl ?_ | refine qv rfl (qfld FldC.fld rfl rfl) rfl rfl ?_
          | refine qv rfl (rr_lss rfl rfl (qT (by omega))) rfl rfl ?_ | refine qv rfl (rr_lss rfl rfl (qF (by omega))) rfl rfl ?_
          | refine qv rfl (rr_geq rfl rfl (qT (by omega))) rfl rfl ?_ | refine qv rfl (rr_geq rfl rfl (qF (by omega))) rfl rfl ?_
          | refine qv rfl (rr_eql rfl rfl (qT (by omega))) rfl rfl ?_ | refine qv rfl (rr_eql rfl rfl (qF (by omega))) rfl rfl ?_
          | refine qv rfl (rr_add64 rfl rfl (by omega) (by omega) rfl) rfl rfl ?_)
        refine TL_storeB (i := 1) (cs' := (tokC (r, fr, t)).toArray) rfl rfl rfl rfl rfl rfl ?_
        conv => arg 8; simp only [zA, zB, zC, zD, zE, zF, zG, zH, zI, rowS, ret, id_eq]
        repeat (first
          | refine qv rfl (qp rfl) rfl rfl ?_ | refine TL_nil ?_ | refine T_seq ?_ | refine T_region ?_ | refine qcT rfl ?_ | refine qcF rfl ?_ | refine T_skip ?_
          | refine T_exit ?_ | refine T_ret ?_ | refine T_block ?_ | refine E_then ?_ | refine E_thenX ?_ | refine E_thenR ?_ | refine E_blockN ?_
          | refine E_blockR ?_ | refine E_blockX ?_ | refine E_blockO rfl ?_ | refine qv rfl (rr_strlen Und.eq rfl) rfl rfl ?_
          | refine qv rfl (qfld FldC.fld rfl rfl) rfl rfl ?_ | refine qv rfl (rr_lss rfl rfl (qT (by omega))) rfl rfl ?_
          | refine qv rfl (rr_lss rfl rfl (qF (by omega))) rfl rfl ?_ | refine qv rfl (rr_geq rfl rfl (qT (by omega))) rfl rfl ?_
          | refine qv rfl (rr_geq rfl rfl (qF (by omega))) rfl rfl ?_ | refine qv rfl (rr_eql rfl rfl (qT (by omega))) rfl rfl ?_
          | refine qv rfl (rr_eql rfl rfl (qF (by omega))) rfl rfl ?_ | refine qv rfl (rr_add64 rfl rfl (by omega) (by omega) rfl) rfl rfl ?_)
        exact E_retc2 (i := 1) rfl rfl rfl rfl rfl fun w hm => hm.ret
    · rw [if_neg q1] at i4
      obtain ⟨xn, rfl⟩ := Int.eq_ofNat_of_zero_le (show 0 ≤ x by omega)
      have hxt : xn < tags.length := by omega
      have hatT := fun (L : List Own) => at_el (L := L) SmIn_len htd hxt 0 _ rfl
      rw [Int.toNat_natCast, List.getD_eq_getElem?_getD (l := tags), List.getElem?_eq_getElem hxt, Option.getD_some] at i4
      generalize tags[xn] = tg at *
      have hatT' : ∀ (L : List Own), At (w : Base) L ⟨bt, offt + xn * 1 + 0, none⟩ (.int .i64 tg) := hatT
      by_cases q2 : 0 ≤ tg
      · rw [if_pos q2] at i4
        repeat (first
          | refine qv rfl (qp rfl) rfl rfl ?_ | refine TL_nil ?_ | refine T_seq ?_ | refine T_region ?_ | refine qcT rfl ?_ | refine qcF rfl ?_ | refine T_skip ?_
          | refine T_exit ?_ | refine T_ret ?_ | refine T_block ?_ | refine E_then ?_ | refine E_thenX ?_ | refine E_thenR ?_ | refine E_blockN ?_
          | refine E_blockR ?_ | refine E_blockX ?_ | refine E_blockO rfl ?_ | refine qv rfl (rr_lss (b := false) rfl rfl (decide_eq_false q1)) rfl rfl ?_
          | refine qv rfl (rr_load1 TyC.ty rfl (at_blk (i := 0) rfl (pk_tags _ _ _))) rfl rfl ?_
          | refine qv rfl (rr_idxc (j := xn) Und.eq TyC.ty rfl rfl hxt) rfl rfl ?_ | refine qv rfl (rr_load1 (v := .int .i64 tg) TyC.ty rfl (hatT' _)) rfl rfl ?_
          | refine qv rfl (rr_geq (b := true) rfl rfl (decide_eq_true q2)) rfl rfl ?_
          | refine qv rfl (rr_add64 (r := ((i + 1 : Nat) : Int)) rfl rfl (by omega) (by omega) (by omega)) rfl rfl ?_
          | refine qv rfl (rr_strlen Und.eq rfl) rfl rfl ?_ | refine qv rfl (qfld FldC.fld rfl rfl) rfl rfl ?_
          | refine qv rfl (rr_lss rfl rfl (qT (by omega))) rfl rfl ?_ | refine qv rfl (rr_lss rfl rfl (qF (by omega))) rfl rfl ?_
          | refine qv rfl (rr_geq rfl rfl (qT (by omega))) rfl rfl ?_ | refine qv rfl (rr_geq rfl rfl (qF (by omega))) rfl rfl ?_
          | refine qv rfl (rr_eql rfl rfl (qT (by omega))) rfl rfl ?_ | refine qv rfl (rr_eql rfl rfl (qF (by omega))) rfl rfl ?_
          | refine qv rfl (rr_add64 rfl rfl (by omega) (by omega) rfl) rfl rfl ?_)
        refine TL_store1 (i := 2) rfl rfl rfl rfl rfl rfl ?_
        conv => arg 8; simp only [zA, zB, zC, zD, zE, zF, zG, zH, zI, rowS, ret, id_eq]
        repeat (first
          | refine qv rfl (qp rfl) rfl rfl ?_ | refine TL_nil ?_ | refine T_seq ?_ | refine T_region ?_ | refine qcT rfl ?_ | refine qcF rfl ?_ | refine T_skip ?_
          | refine T_exit ?_ | refine T_ret ?_ | refine T_block ?_ | refine E_then ?_ | refine E_thenX ?_ | refine E_thenR ?_ | refine E_blockN ?_
          | refine E_blockR ?_ | refine E_blockX ?_ | refine E_blockO rfl ?_ | refine qv rfl (rr_strlen Und.eq rfl) rfl rfl ?_
          | refine qv rfl (qfld FldC.fld rfl rfl) rfl rfl ?_ | refine qv rfl (rr_lss rfl rfl (qT (by omega))) rfl rfl ?_
          | refine qv rfl (rr_lss rfl rfl (qF (by omega))) rfl rfl ?_ | refine qv rfl (rr_geq rfl rfl (qT (by omega))) rfl rfl ?_
          | refine qv rfl (rr_geq rfl rfl (qF (by omega))) rfl rfl ?_ | refine qv rfl (rr_eql rfl rfl (qT (by omega))) rfl rfl ?_
          | refine qv rfl (rr_eql rfl rfl (qF (by omega))) rfl rfl ?_ | refine qv rfl (rr_add64 rfl rfl (by omega) (by omega) rfl) rfl rfl ?_)
        refine TL_store1 (i := 2) rfl rfl rfl rfl rfl rfl ?_
        conv => arg 8; simp only [zA, zB, zC, zD, zE, zF, zG, zH, zI, rowS, ret, id_eq]
        repeat (first
          | refine qv rfl (qp rfl) rfl rfl ?_ | refine TL_nil ?_ | refine T_seq ?_ | refine T_region ?_ | refine qcT rfl ?_ | refine qcF rfl ?_ | refine T_skip ?_
          | refine T_exit ?_ | refine T_ret ?_ | refine T_block ?_ | refine E_then ?_ | refine E_thenX ?_ | refine E_thenR ?_ | refine E_blockN ?_
          | refine E_blockR ?_ | refine E_blockX ?_ | refine E_blockO rfl ?_
          | refine qv rfl (rr_add64 (r := ((i + 1 : Nat) : Int)) rfl rfl (by omega) (by omega) (by omega)) rfl rfl ?_
          | refine qv rfl (rr_strlen Und.eq rfl) rfl rfl ?_ | refine qv rfl (qfld FldC.fld rfl rfl) rfl rfl ?_
          | refine qv rfl (rr_lss rfl rfl (qT (by omega))) rfl rfl ?_ | refine qv rfl (rr_lss rfl rfl (qF (by omega))) rfl rfl ?_
          | refine qv rfl (rr_geq rfl rfl (qT (by omega))) rfl rfl ?_ | refine qv rfl (rr_geq rfl rfl (qF (by omega))) rfl rfl ?_
          | refine qv rfl (rr_eql rfl rfl (qT (by omega))) rfl rfl ?_ | refine qv rfl (rr_eql rfl rfl (qF (by omega))) rfl rfl ?_
          | refine qv rfl (rr_add64 rfl rfl (by omega) (by omega) rfl) rfl rfl ?_)
        exact E_round (i + 1, xn, tg, i + 1) ⟨by show i + 1 ≤ s.length; omega, by show xn < N.length; omega, Nat.le_refl _, i4⟩ (by show s.length - (i + 1) < s.length - i; omega) (by repeat' (first | exact True.intro | refine And.intro rfl ?_)) rfl
      · rw [if_neg q2] at i4
        repeat (first
          | refine qv rfl (qp rfl) rfl rfl ?_ | refine TL_nil ?_ | refine T_seq ?_ | refine T_region ?_ | refine qcT rfl ?_ | refine qcF rfl ?_ | refine T_skip ?_
          | refine T_exit ?_ | refine T_ret ?_ | refine T_block ?_ | refine E_then ?_ | refine E_thenX ?_ | refine E_thenR ?_ | refine E_blockN ?_
          | refine E_blockR ?_ | refine E_blockX ?_ | refine E_blockO rfl ?_ | refine qv rfl (rr_lss (b := false) rfl rfl (decide_eq_false q1)) rfl rfl ?_
          | refine qv rfl (rr_load1 TyC.ty rfl (at_blk (i := 0) rfl (pk_tags _ _ _))) rfl rfl ?_
          | refine qv rfl (rr_idxc (j := xn) Und.eq TyC.ty rfl rfl hxt) rfl rfl ?_ | refine qv rfl (rr_load1 (v := .int .i64 tg) TyC.ty rfl (hatT' _)) rfl rfl ?_
          | refine qv rfl (rr_geq (b := false) rfl rfl (decide_eq_false q2)) rfl rfl ?_
          | refine qv rfl (rr_add64 (r := ((i + 1 : Nat) : Int)) rfl rfl (by omega) (by omega) (by omega)) rfl rfl ?_
          | refine qv rfl (rr_strlen Und.eq rfl) rfl rfl ?_ | refine qv rfl (qfld FldC.fld rfl rfl) rfl rfl ?_
          | refine qv rfl (rr_lss rfl rfl (qT (by omega))) rfl rfl ?_ | refine qv rfl (rr_lss rfl rfl (qF (by omega))) rfl rfl ?_
          | refine qv rfl (rr_geq rfl rfl (qT (by omega))) rfl rfl ?_ | refine qv rfl (rr_geq rfl rfl (qF (by omega))) rfl rfl ?_
          | refine qv rfl (rr_eql rfl rfl (qT (by omega))) rfl rfl ?_ | refine qv rfl (rr_eql rfl rfl (qF (by omega))) rfl rfl ?_
          | refine qv rfl (rr_add64 rfl rfl (by omega) (by omega) rfl) rfl rfl ?_)
        exact E_round (i + 1, xn, r, t) ⟨by show i + 1 ≤ s.length; omega, by show xn < N.length; omega, by show t ≤ i + 1; omega, i4⟩ (by show s.length - (i + 1) < s.length - i; omega) (by repeat' (first | exact True.intro | refine And.intro rfl ?_)) rfl
  · rw [List.drop_eq_nil_of_le (by omega)] at i4
    have i4 : (r, t) = fin := i4
    subst i4
    unfold oneA
    by_cases e1 : t = 0
    · subst e1
      rw [if_pos rfl]
      repeat (first
        | refine qv rfl (qp rfl) rfl rfl ?_ | refine TL_nil ?_ | refine T_seq ?_ | refine T_region ?_ | refine qcT rfl ?_ | refine qcF rfl ?_ | refine T_skip ?_
        | refine T_exit ?_ | refine T_ret ?_ | refine T_block ?_ | refine E_then ?_ | refine E_thenX ?_ | refine E_thenR ?_ | refine E_blockN ?_
        | refine E_blockR ?_ | refine E_blockX ?_ | refine E_blockO rfl ?_
        | refine qv rfl (rr_load1 (v := .int .i64 ((0 : Nat) : Int)) TyC.ty rfl (at_blk (i := 2) rfl rfl)) rfl rfl ?_
        | refine qv rfl (rr_eql (b := true) rfl rfl (decide_eq_true (by simp))) rfl rfl ?_ | refine qv rfl (rr_build rfl hb0) rfl rfl ?_
        | refine qv rfl (rr_strlen Und.eq rfl) rfl rfl ?_ | refine qv rfl (qfld FldC.fld rfl rfl) rfl rfl ?_
        | refine qv rfl (rr_lss rfl rfl (qT (by omega))) rfl rfl ?_ | refine qv rfl (rr_lss rfl rfl (qF (by omega))) rfl rfl ?_
        | refine qv rfl (rr_geq rfl rfl (qT (by omega))) rfl rfl ?_ | refine qv rfl (rr_geq rfl rfl (qF (by omega))) rfl rfl ?_
        | refine qv rfl (rr_eql rfl rfl (qT (by omega))) rfl rfl ?_ | refine qv rfl (rr_eql rfl rfl (qF (by omega))) rfl rfl ?_
        | refine qv rfl (rr_add64 rfl rfl (by omega) (by omega) rfl) rfl rfl ?_)
      refine TL_storeB (i := 1) (cs' := (tokC (0, 0, 0)).toArray) rfl rfl rfl rfl rfl rfl ?_
      conv => arg 8; simp only [zA, zB, zC, zD, zE, zF, zG, zH, zI, rowS, ret, id_eq]
      repeat (first
        | refine qv rfl (qp rfl) rfl rfl ?_ | refine TL_nil ?_ | refine T_seq ?_ | refine T_region ?_ | refine qcT rfl ?_ | refine qcF rfl ?_ | refine T_skip ?_
        | refine T_exit ?_ | refine T_ret ?_ | refine T_block ?_ | refine E_then ?_ | refine E_thenX ?_ | refine E_thenR ?_ | refine E_blockN ?_
        | refine E_blockR ?_ | refine E_blockX ?_ | refine E_blockO rfl ?_ | refine qv rfl (rr_strlen Und.eq rfl) rfl rfl ?_
        | refine qv rfl (qfld FldC.fld rfl rfl) rfl rfl ?_ | refine qv rfl (rr_lss rfl rfl (qT (by omega))) rfl rfl ?_
        | refine qv rfl (rr_lss rfl rfl (qF (by omega))) rfl rfl ?_ | refine qv rfl (rr_geq rfl rfl (qT (by omega))) rfl rfl ?_
        | refine qv rfl (rr_geq rfl rfl (qF (by omega))) rfl rfl ?_ | refine qv rfl (rr_eql rfl rfl (qT (by omega))) rfl rfl ?_
        | refine qv rfl (rr_eql rfl rfl (qF (by omega))) rfl rfl ?_ | refine qv rfl (rr_add64 rfl rfl (by omega) (by omega) rfl) rfl rfl ?_)
      exact E_retc2 (i := 1) rfl rfl rfl rfl rfl fun w hm => hm.ret
    · rw [if_neg e1]
      repeat (first
        | refine qv rfl (qp rfl) rfl rfl ?_ | refine TL_nil ?_ | refine T_seq ?_ | refine T_region ?_ | refine qcT rfl ?_ | refine qcF rfl ?_ | refine T_skip ?_
        | refine T_exit ?_ | refine T_ret ?_ | refine T_block ?_ | refine E_then ?_ | refine E_thenX ?_ | refine E_thenR ?_ | refine E_blockN ?_
        | refine E_blockR ?_ | refine E_blockX ?_ | refine E_blockO rfl ?_
        | refine qv rfl (rr_load1 (v := .int .i64 (t : Int)) TyC.ty rfl (at_blk (i := 2) rfl rfl)) rfl rfl ?_
        | refine qv rfl (rr_eql (b := false) rfl rfl (decide_eq_false (by omega))) rfl rfl ?_ | refine qv rfl (rr_loadB (i := 2) TyC.ty rfl rfl rfl) rfl rfl ?_
        | refine qv rfl (rr_strlen Und.eq rfl) rfl rfl ?_ | refine qv rfl (qfld FldC.fld rfl rfl) rfl rfl ?_
        | refine qv rfl (rr_lss rfl rfl (qT (by omega))) rfl rfl ?_ | refine qv rfl (rr_lss rfl rfl (qF (by omega))) rfl rfl ?_
        | refine qv rfl (rr_geq rfl rfl (qT (by omega))) rfl rfl ?_ | refine qv rfl (rr_geq rfl rfl (qF (by omega))) rfl rfl ?_
        | refine qv rfl (rr_eql rfl rfl (qT (by omega))) rfl rfl ?_ | refine qv rfl (rr_eql rfl rfl (qF (by omega))) rfl rfl ?_
        | refine qv rfl (rr_add64 rfl rfl (by omega) (by omega) rfl) rfl rfl ?_)
      refine TL_storeB (i := 1) (cs' := (tokC (r, fr, t)).toArray) rfl rfl rfl rfl rfl rfl ?_
      conv => arg 8; simp only [zA, zB, zC, zD, zE, zF, zG, zH, zI, rowS, ret, id_eq]
      repeat (first
        | refine qv rfl (qp rfl) rfl rfl ?_ | refine TL_nil ?_ | refine T_seq ?_ | refine T_region ?_ | refine qcT rfl ?_ | refine qcF rfl ?_ | refine T_skip ?_
        | refine T_exit ?_ | refine T_ret ?_ | refine T_block ?_ | refine E_then ?_ | refine E_thenX ?_ | refine E_thenR ?_ | refine E_blockN ?_
        | refine E_blockR ?_ | refine E_blockX ?_ | refine E_blockO rfl ?_ | refine qv rfl (rr_strlen Und.eq rfl) rfl rfl ?_
        | refine qv rfl (qfld FldC.fld rfl rfl) rfl rfl ?_ | refine qv rfl (rr_lss rfl rfl (qT (by omega))) rfl rfl ?_
        | refine qv rfl (rr_lss rfl rfl (qF (by omega))) rfl rfl ?_ | refine qv rfl (rr_geq rfl rfl (qT (by omega))) rfl rfl ?_
        | refine qv rfl (rr_geq rfl rfl (qF (by omega))) rfl rfl ?_ | refine qv rfl (rr_eql rfl rfl (qT (by omega))) rfl rfl ?_
        | refine qv rfl (rr_eql rfl rfl (qF (by omega))) rfl rfl ?_ | refine qv rfl (rr_add64 rfl rfl (by omega) (by omega) rfl) rfl rfl ?_)
      exact E_retc2 (i := 1) rfl rfl rfl rfl rfl fun w hm => hm.ret
end Go.Proofs.Yteejnamdpdfocaa.eng

/- LexB -/
namespace Go.Proofs.Yteejnamdpdfocaa.eng
open Go.RowKit kit mix smallL lexL
noncomputable def lexA (o : Of) (N : List (List Int)) (tags : List Int) (s : List UInt8) : List Tok × Nat × Int := if chkP o N tags ≠ 0 then ([], 0, chkP o N tags) else if 2000 < s.length then ([], 0, 2) else lexF o N tags s
theorem lexA_ok {o : Of} {N : List (List Int)} {tags : List Int} {s : List UInt8} (h : chkP o N tags = 0) (hs : s.length ≤ 2000) : lexA o N tags s = lexF o N tags s := by
  unfold lexA; rw [if_neg (by simpa using h), if_neg (by omega)]
abbrev toksO (v : Value) (l : List Tok) : Own := rowO 33 3 v l.length (l.flatMap tokC)
def lexS (R : List Tok × Nat × Int) : Spec Value := ⟨fun _ => True, fun v => .tuple #[v, .int .i64 (R.2.1 : Int), .int .i64 R.2.2], fun v => [toksO v R.1]⟩
theorem toks_snoc (v : Value) (l : List Tok) (x : Tok) : toksO v (l ++ [x]) = rowO 33 3 v (l.length + 1) (l.flatMap tokC ++ tokC x) := by
  unfold toksO; rw [List.length_append, List.flatMap_append]; simp
theorem tok_one (t : Tok) : ∀ u ∈ tokC t, u.oneCell' = true := by
  intro u h
  simp only [tokC, List.mem_cons, List.not_mem_nil, or_false] at h
  rcases h with rfl | rfl | rfl <;> rfl
set_option maxHeartbeats 8000000 in
theorem lex_calls (o : Of) (vn vt : Value) (N : List (List Int)) (tags : List Int) (s : List UInt8) (w : World) (h : PkI w vn vt N tags) (ho : ∀ b (h : b < 256), o[b] < 256) (hs : s.length ≤ 9223372036854775807) :
    Calls Try.prog 5 #[pkV o vn vt, str s] w (Meets (lexS (lexA o N tags s)) w) := by
  have hck := fun w' (hg : Gr w w') => lexCheck_calls o vn vt N tags s w' (h.gr hg) ho hs
  have hone := fun hg hs (fr : Nat) hf w' (hg' : Gr w w') => lexOne_calls o vn vt N tags s fr w' (h.gr hg') hg hs hf
  have hA0 := fun h => lexA_ok (o := o) (N := N) (tags := tags) (s := s) h
  obtain ⟨⟨an, cn, rfl, -⟩, at', ct, rfl, -⟩ := h
  by_cases c1 : chkP o N tags = 0
  case neg =>
    have hA : lexA o N tags s = ([], 0, chkP o N tags) := if_pos c1
    rw [if_pos c1] at hck
    rw [hA]
    clear hA0 hA hone
    generalize chkP o N tags = e at *
    refine enter (args := [pkV o (.slice an N.length cn) (.slice at' tags.length ct), str s]) (n := 40) Try.func5 rfl rfl rfl ?_
    refine T_seq (T_region (TL_box rfl rfl rfl fun g2 => ?_))
    conv => arg 8; simp only [zA, zB, zC, zD, zE, zF, zG, zH, zI, rowS, ret, id_eq]
    repeat (first
      | refine qv rfl (qp rfl) rfl rfl ?_ | refine TL_nil ?_ | refine T_seq ?_ | refine T_region ?_ | refine qcT rfl ?_ | refine qcF rfl ?_ | refine T_skip ?_
      | refine T_exit ?_ | refine T_ret ?_ | refine T_block ?_ | refine E_then ?_ | refine E_thenX ?_ | refine E_thenR ?_ | refine E_blockN ?_
      | refine E_blockR ?_ | refine E_blockX ?_ | refine E_blockO rfl ?_ | refine qv rfl (rr_loadB (i := 0) TyC.ty rfl rfl (pk_size _ _ _)) rfl rfl ?_
      | refine qv rfl (rr_strlen Und.eq rfl) rfl rfl ?_ | refine qv rfl (qfld FldC.fld rfl rfl) rfl rfl ?_ | refine qv rfl (rr_not rfl rfl) rfl rfl ?_
      | refine qv rfl (rr_lss rfl rfl (qT (by omega))) rfl rfl ?_ | refine qv rfl (rr_lss rfl rfl (qF (by omega))) rfl rfl ?_
      | refine qv rfl (rr_neq rfl rfl (qT (by omega))) rfl rfl ?_ | refine qv rfl (rr_neq rfl rfl (qF (by omega))) rfl rfl ?_)
    refine TL_call (he2 EntersC.en rfl rfl rfl) (fun w hm => hck _ hm.below) rfl rfl rfl ?_
    intro _ _
    conv => arg 8; simp only [zA, zB, zC, zD, zE, zF, zG, zH, zI, rowS, ret, id_eq]
    repeat (first
      | refine qv rfl (qp rfl) rfl rfl ?_ | refine TL_nil ?_ | refine T_seq ?_ | refine T_region ?_ | refine qcT rfl ?_ | refine qcF rfl ?_ | refine T_skip ?_
      | refine T_exit ?_ | refine T_ret ?_ | refine T_block ?_ | refine E_then ?_ | refine E_thenX ?_ | refine E_thenR ?_ | refine E_blockN ?_
      | refine E_blockR ?_ | refine E_blockX ?_ | refine E_blockO rfl ?_ | refine qv rfl (rr_neq (b := true) rfl rfl (decide_eq_true c1)) rfl rfl ?_
      | refine qv rfl (rr_strlen Und.eq rfl) rfl rfl ?_ | refine qv rfl (qfld FldC.fld rfl rfl) rfl rfl ?_ | refine qv rfl (rr_not rfl rfl) rfl rfl ?_
      | refine qv rfl (rr_lss rfl rfl (qT (by omega))) rfl rfl ?_ | refine qv rfl (rr_lss rfl rfl (qF (by omega))) rfl rfl ?_
      | refine qv rfl (rr_neq rfl rfl (qT (by omega))) rfl rfl ?_ | refine qv rfl (rr_neq rfl rfl (qF (by omega))) rfl rfl ?_)
    refine E_nilrow 33 3 ?_
    exact E_ret3 rfl rfl rfl rfl fun w hm => hm.meets (S := lexS ([], 0, e)) (.slice none 0 0) trivial [1] (by decide) rfl
  by_cases c2 : 2000 < s.length
  · have hA : lexA o N tags s = ([], 0, 2) := by unfold lexA; rw [if_neg (by simpa using c1), if_pos c2]
    rw [if_neg (by simpa using c1), if_pos c2] at hck
    rw [hA]
    clear hA0 hA hone
    refine enter (args := [pkV o (.slice an N.length cn) (.slice at' tags.length ct), str s]) (n := 40) Try.func5 rfl rfl rfl ?_
    refine T_seq (T_region (TL_box rfl rfl rfl fun g2 => ?_))
    conv => arg 8; simp only [zA, zB, zC, zD, zE, zF, zG, zH, zI, rowS, ret, id_eq]
    repeat (first
      | refine qv rfl (qp rfl) rfl rfl ?_ | refine TL_nil ?_ | refine T_seq ?_ | refine T_region ?_ | refine qcT rfl ?_ | refine qcF rfl ?_ | refine T_skip ?_
      | refine T_exit ?_ | refine T_ret ?_ | refine T_block ?_ | refine E_then ?_ | refine E_thenX ?_ | refine E_thenR ?_ | refine E_blockN ?_
      | refine E_blockR ?_ | refine E_blockX ?_ | refine E_blockO rfl ?_ | refine qv rfl (rr_loadB (i := 0) TyC.ty rfl rfl (pk_size _ _ _)) rfl rfl ?_
      | refine qv rfl (rr_strlen Und.eq rfl) rfl rfl ?_ | refine qv rfl (qfld FldC.fld rfl rfl) rfl rfl ?_ | refine qv rfl (rr_not rfl rfl) rfl rfl ?_
      | refine qv rfl (rr_lss rfl rfl (qT (by omega))) rfl rfl ?_ | refine qv rfl (rr_lss rfl rfl (qF (by omega))) rfl rfl ?_
      | refine qv rfl (rr_neq rfl rfl (qT (by omega))) rfl rfl ?_ | refine qv rfl (rr_neq rfl rfl (qF (by omega))) rfl rfl ?_)
    refine TL_call (he2 EntersC.en rfl rfl rfl) (fun w hm => hck _ hm.below) rfl rfl rfl ?_
    intro _ _
    conv => arg 8; simp only [zA, zB, zC, zD, zE, zF, zG, zH, zI, rowS, ret, id_eq]
    repeat (first
      | refine qv rfl (qp rfl) rfl rfl ?_ | refine TL_nil ?_ | refine T_seq ?_ | refine T_region ?_ | refine qcT rfl ?_ | refine qcF rfl ?_ | refine T_skip ?_
      | refine T_exit ?_ | refine T_ret ?_ | refine T_block ?_ | refine E_then ?_ | refine E_thenX ?_ | refine E_thenR ?_ | refine E_blockN ?_
      | refine E_blockR ?_ | refine E_blockX ?_ | refine E_blockO rfl ?_ | refine qv rfl (rr_neq (b := true) rfl rfl (decide_eq_true (by decide))) rfl rfl ?_
      | refine qv rfl (rr_strlen Und.eq rfl) rfl rfl ?_ | refine qv rfl (qfld FldC.fld rfl rfl) rfl rfl ?_ | refine qv rfl (rr_not rfl rfl) rfl rfl ?_
      | refine qv rfl (rr_lss rfl rfl (qT (by omega))) rfl rfl ?_ | refine qv rfl (rr_lss rfl rfl (qF (by omega))) rfl rfl ?_
      | refine qv rfl (rr_neq rfl rfl (qT (by omega))) rfl rfl ?_ | refine qv rfl (rr_neq rfl rfl (qF (by omega))) rfl rfl ?_)
    refine E_nilrow 33 3 ?_
    exact E_ret3 rfl rfl rfl rfl fun w hm => hm.meets (S := lexS ([], 0, 2)) (.slice none 0 0) trivial [1] (by decide) rfl
  rw [if_neg (by simpa using c1), if_neg c2] at hck
  have hone := hone (chkP_good c1) (by omega)
  rw [hA0 c1 (by omega)]
  unfold lexF
  clear hA0 c1
  refine enter (args := [pkV o (.slice an N.length cn) (.slice at' tags.length ct), str s]) (n := 40) Try.func5 rfl rfl rfl ?_
  refine T_seq (T_region (TL_box rfl rfl rfl fun g2 => ?_))
  conv => arg 8; simp only [zA, zB, zC, zD, zE, zF, zG, zH, zI, rowS, ret, id_eq]
  repeat (first
    | refine qv rfl (qp rfl) rfl rfl ?_ | refine TL_nil ?_ | refine T_seq ?_ | refine T_region ?_ | refine qcT rfl ?_ | refine qcF rfl ?_ | refine T_skip ?_
    | refine T_exit ?_ | refine T_ret ?_ | refine T_block ?_ | refine E_then ?_ | refine E_thenX ?_ | refine E_thenR ?_ | refine E_blockN ?_
    | refine E_blockR ?_ | refine E_blockX ?_ | refine E_blockO rfl ?_ | refine qv rfl (rr_loadB (i := 0) TyC.ty rfl rfl (pk_size _ _ _)) rfl rfl ?_
    | refine qv rfl (rr_strlen Und.eq rfl) rfl rfl ?_ | refine qv rfl (qfld FldC.fld rfl rfl) rfl rfl ?_ | refine qv rfl (rr_not rfl rfl) rfl rfl ?_
    | refine qv rfl (rr_lss rfl rfl (qT (by omega))) rfl rfl ?_ | refine qv rfl (rr_lss rfl rfl (qF (by omega))) rfl rfl ?_
    | refine qv rfl (rr_neq rfl rfl (qT (by omega))) rfl rfl ?_ | refine qv rfl (rr_neq rfl rfl (qF (by omega))) rfl rfl ?_)
  refine TL_call (he2 EntersC.en rfl rfl rfl) (fun w hm => hck _ hm.below) rfl rfl rfl ?_
  intro _ _
  conv => arg 8; simp only [zA, zB, zC, zD, zE, zF, zG, zH, zI, rowS, ret, id_eq]
  clear hck
  repeat (first
    | refine qv rfl (qp rfl) rfl rfl ?_ | refine TL_nil ?_ | refine T_seq ?_ | refine T_region ?_ | refine qcT rfl ?_ | refine qcF rfl ?_ | refine T_skip ?_
    | refine T_exit ?_ | refine T_ret ?_ | refine T_block ?_ | refine E_then ?_ | refine E_thenX ?_ | refine E_thenR ?_ | refine E_blockN ?_
    | refine E_blockR ?_ | refine E_blockX ?_ | refine E_blockO rfl ?_ | refine qv rfl (rr_neq (b := false) rfl rfl (decide_eq_false (by simp))) rfl rfl ?_
    | refine qv rfl (rr_strlen Und.eq rfl) rfl rfl ?_ | refine qv rfl (qfld FldC.fld rfl rfl) rfl rfl ?_ | refine qv rfl (rr_not rfl rfl) rfl rfl ?_
    | refine qv rfl (rr_lss rfl rfl (qT (by omega))) rfl rfl ?_ | refine qv rfl (rr_lss rfl rfl (qF (by omega))) rfl rfl ?_
    | refine qv rfl (rr_neq rfl rfl (qT (by omega))) rfl rfl ?_ | refine qv rfl (rr_neq rfl rfl (qF (by omega))) rfl rfl ?_)
  refine T_nil 33 3 ?_
  generalize hfin : lexGo o N tags s (s.length + 1) 0 = fin
  refine T_loop (ι := Nat × List Tok × Value × Nat) (fun (a, l, _, f) => a ≤ s.length ∧ l.length ≤ a ∧ s.length < a + f ∧ fin = (l ++ (lexGo o N tags s f a).1, (lexGo o N tags s f a).2)) (fun (a, _, v, _) => [(1, str s), (2, .pointer (some ⟨g2, 0, none⟩)), (8, v), (9, .int .i64 (a : Int))])
    (fun (_, l, v, _) => [blkO g2 (pkC o (.slice an N.length cn) (.slice at' tags.length ct)).toArray 26, toksO v l]) (fun (a, _, _, _) => s.length - a) (0, [], .slice none 0 0, s.length + 1) ⟨Nat.zero_le _, Nat.zero_le _, by omega, by rw [hfin]; rfl⟩ (by repeat' (first | exact True.intro | refine And.intro rfl ?_)) rfl ?_
  clear hfin
  rintro ⟨a, l, v, f⟩ ⟨i1, i2, i3, i4⟩
  dsimp only at i1 i2 i3 i4 ⊢
  by_cases c1 : a < s.length
  · obtain ⟨f, rfl⟩ : ∃ f', f = f' + 1 := ⟨f - 1, by omega⟩
    rw [lexGo_succ, if_pos c1] at i4
    have ht := oneF_to (o := o) (N := N) (tags := tags) (s := s) (fr := a) (by omega)
    have hone := hone a (by omega)
    generalize oneF o N tags s a = x at *
    obtain ⟨r, t⟩ := x
    dsimp only at i4 ht
    unfold oneA at hone
    by_cases q1 : t = 0
    · subst q1
      rw [if_pos rfl] at i4 hone
      subst i4
      repeat (first
        | refine qv rfl (qp rfl) rfl rfl ?_ | refine TL_nil ?_ | refine T_seq ?_ | refine T_region ?_ | refine qcT rfl ?_ | refine qcF rfl ?_ | refine T_skip ?_
        | refine T_exit ?_ | refine T_ret ?_ | refine T_block ?_ | refine E_then ?_ | refine E_thenX ?_ | refine E_thenR ?_ | refine E_blockN ?_
        | refine E_blockR ?_ | refine E_blockX ?_ | refine E_blockO rfl ?_ | refine qv rfl (rr_loadB (i := 0) TyC.ty rfl rfl (pk_size _ _ _)) rfl rfl ?_
        | refine qv rfl (rr_strlen Und.eq rfl) rfl rfl ?_ | refine qv rfl (qfld FldC.fld rfl rfl) rfl rfl ?_ | refine qv rfl (rr_not rfl rfl) rfl rfl ?_
        | refine qv rfl (rr_lss rfl rfl (qT (by omega))) rfl rfl ?_ | refine qv rfl (rr_lss rfl rfl (qF (by omega))) rfl rfl ?_
        | refine qv rfl (rr_neq rfl rfl (qT (by omega))) rfl rfl ?_ | refine qv rfl (rr_neq rfl rfl (qF (by omega))) rfl rfl ?_)
      refine TL_call (he3 EntersC.en rfl rfl rfl rfl) (fun w hm => hone _ hm.below) rfl rfl rfl ?_
      intro _ _
      conv => arg 8; simp only [zA, zB, zC, zD, zE, zF, zG, zH, zI, rowS, ret, id_eq]
      repeat (first
        | refine qv rfl (qp rfl) rfl rfl ?_ | refine TL_nil ?_ | refine T_seq ?_ | refine T_region ?_ | refine qcT rfl ?_ | refine qcF rfl ?_ | refine T_skip ?_
        | refine T_exit ?_ | refine T_ret ?_ | refine T_block ?_ | refine E_then ?_ | refine E_thenX ?_ | refine E_thenR ?_ | refine E_blockN ?_
        | refine E_blockR ?_ | refine E_blockX ?_ | refine E_blockO rfl ?_ | refine qv rfl (rr_strlen Und.eq rfl) rfl rfl ?_
        | refine qv rfl (qfld FldC.fld rfl rfl) rfl rfl ?_ | refine qv rfl (rr_not rfl rfl) rfl rfl ?_
        | refine qv rfl (rr_lss rfl rfl (qT (by omega))) rfl rfl ?_ | refine qv rfl (rr_lss rfl rfl (qF (by omega))) rfl rfl ?_
        | refine qv rfl (rr_neq rfl rfl (qT (by omega))) rfl rfl ?_ | refine qv rfl (rr_neq rfl rfl (qF (by omega))) rfl rfl ?_)
      refine TL_new rfl fun g10 => ?_
      conv => arg 8; simp only [zA, zB, zC, zD, zE, zF, zG, zH, zI, rowS, ret, id_eq]
      refine TL_storeB (i := 2) (cs' := (tokC (0, 0, 0)).toArray) rfl rfl rfl rfl rfl rfl ?_
      conv => arg 8; simp only [zA, zB, zC, zD, zE, zF, zG, zH, zI, rowS, ret, id_eq]
      repeat (first
        | refine qv rfl (qp rfl) rfl rfl ?_ | refine TL_nil ?_ | refine T_seq ?_ | refine T_region ?_ | refine qcT rfl ?_ | refine qcF rfl ?_ | refine T_skip ?_
        | refine T_exit ?_ | refine T_ret ?_ | refine T_block ?_ | refine E_then ?_ | refine E_thenX ?_ | refine E_thenR ?_ | refine E_blockN ?_
        | refine E_blockR ?_ | refine E_blockX ?_ | refine E_blockO rfl ?_ | refine qv rfl (rr_strlen Und.eq rfl) rfl rfl ?_
        | refine qv rfl (qfld FldC.fld rfl rfl) rfl rfl ?_ | refine qv rfl (rr_not rfl rfl) rfl rfl ?_
        | refine qv rfl (rr_lss rfl rfl (qT (by omega))) rfl rfl ?_ | refine qv rfl (rr_lss rfl rfl (qF (by omega))) rfl rfl ?_
        | refine qv rfl (rr_neq rfl rfl (qT (by omega))) rfl rfl ?_ | refine qv rfl (rr_neq rfl rfl (qF (by omega))) rfl rfl ?_)
      exact E_ret3 rfl rfl rfl rfl fun w hm => hm.meets (S := lexS (l ++ [], a, 9)) v trivial [1] (by decide) (by unfold lexS; simp)
    · rw [if_neg q1] at i4 hone
      dsimp only at hone
      have ht := ht.resolve_left q1
      repeat (first
        | refine qv rfl (qp rfl) rfl rfl ?_ | refine TL_nil ?_ | refine T_seq ?_ | refine T_region ?_ | refine qcT rfl ?_ | refine qcF rfl ?_ | refine T_skip ?_
        | refine T_exit ?_ | refine T_ret ?_ | refine T_block ?_ | refine E_then ?_ | refine E_thenX ?_ | refine E_thenR ?_ | refine E_blockN ?_
        | refine E_blockR ?_ | refine E_blockX ?_ | refine E_blockO rfl ?_ | refine qv rfl (rr_loadB (i := 0) TyC.ty rfl rfl (pk_size _ _ _)) rfl rfl ?_
        | refine qv rfl (rr_strlen Und.eq rfl) rfl rfl ?_ | refine qv rfl (qfld FldC.fld rfl rfl) rfl rfl ?_ | refine qv rfl (rr_not rfl rfl) rfl rfl ?_
        | refine qv rfl (rr_lss rfl rfl (qT (by omega))) rfl rfl ?_ | refine qv rfl (rr_lss rfl rfl (qF (by omega))) rfl rfl ?_
        | refine qv rfl (rr_neq rfl rfl (qT (by omega))) rfl rfl ?_ | refine qv rfl (rr_neq rfl rfl (qF (by omega))) rfl rfl ?_)
      refine TL_call (he3 EntersC.en rfl rfl rfl rfl) (fun w hm => hone _ hm.below) rfl rfl rfl ?_
      intro _ _
      conv => arg 8; simp only [zA, zB, zC, zD, zE, zF, zG, zH, zI, rowS, ret, id_eq]
      repeat (first
        | refine qv rfl (qp rfl) rfl rfl ?_ | refine TL_nil ?_ | refine T_seq ?_ | refine T_region ?_ | refine qcT rfl ?_ | refine qcF rfl ?_ | refine T_skip ?_
        | refine T_exit ?_ | refine T_ret ?_ | refine T_block ?_ | refine E_then ?_ | refine E_thenX ?_ | refine E_thenR ?_ | refine E_blockN ?_
        | refine E_blockR ?_ | refine E_blockX ?_ | refine E_blockO rfl ?_ | refine qv rfl (rr_strlen Und.eq rfl) rfl rfl ?_
        | refine qv rfl (qfld FldC.fld rfl rfl) rfl rfl ?_ | refine qv rfl (rr_not rfl rfl) rfl rfl ?_
        | refine qv rfl (rr_lss rfl rfl (qT (by omega))) rfl rfl ?_ | refine qv rfl (rr_lss rfl rfl (qF (by omega))) rfl rfl ?_
        | refine qv rfl (rr_neq rfl rfl (qT (by omega))) rfl rfl ?_ | refine qv rfl (rr_neq rfl rfl (qF (by omega))) rfl rfl ?_)
      refine TL_new rfl fun g10 => ?_
      conv => arg 8; simp only [zA, zB, zC, zD, zE, zF, zG, zH, zI, rowS, ret, id_eq]
      refine TL_storeB (i := 2) (cs' := (tokC (r, a, t)).toArray) rfl rfl rfl rfl rfl rfl ?_
      conv => arg 8; simp only [zA, zB, zC, zD, zE, zF, zG, zH, zI, rowS, ret, id_eq]
      repeat (first
        | refine qv rfl (qp rfl) rfl rfl ?_ | refine TL_nil ?_ | refine T_seq ?_ | refine T_region ?_ | refine qcT rfl ?_ | refine qcF rfl ?_ | refine T_skip ?_
        | refine T_exit ?_ | refine T_ret ?_ | refine T_block ?_ | refine E_then ?_ | refine E_thenX ?_ | refine E_thenR ?_ | refine E_blockN ?_
        | refine E_blockR ?_ | refine E_blockX ?_ | refine E_blockO rfl ?_ | refine qv rfl (rr_strlen Und.eq rfl) rfl rfl ?_
        | refine qv rfl (qfld FldC.fld rfl rfl) rfl rfl ?_ | refine qv rfl (rr_not rfl rfl) rfl rfl ?_
        | refine qv rfl (rr_lss rfl rfl (qT (by omega))) rfl rfl ?_ | refine qv rfl (rr_lss rfl rfl (qF (by omega))) rfl rfl ?_
        | refine qv rfl (rr_neq rfl rfl (qT (by omega))) rfl rfl ?_ | refine qv rfl (rr_neq rfl rfl (qF (by omega))) rfl rfl ?_)
      refine T_ord ([blkO g10 (tokC (r, a, t)).toArray 33]) (.calm 0 (.calm 1 (.calm 4 (.calm 5 (.one 2 (.one 3 (.calm 6 (.calm 7 (.done))))))))) (sub_pick [2] (by decide) rfl) (by kernel_rfl) (by kernel_rfl) (by intro c a d v w h; cases d <;> exact h) ?_
      repeat (first
        | ((first | refine TW_plain rfl rfl ?_ | refine TW_gmet rfl rfl rfl rfl ?_); first | refine TN_val (qp rfl) rfl rfl ?_ | refine TN_val (rr_loadB (i := 0) TyC.ty rfl rfl rfl) rfl rfl ?_ | refine TN_val (rr_load1 (v := .int .i64 (t : Int)) TyC.ty rfl (at_blk (i := 0) rfl rfl)) rfl rfl ?_ | refine TN_val (rr_strlen Und.eq rfl) rfl rfl ?_ | refine TN_val (qfld FldC.fld rfl rfl) rfl rfl ?_ | refine TN_val (rr_not rfl rfl) rfl rfl ?_ | refine TN_val (rr_lss rfl rfl (qT (by omega))) rfl rfl ?_ | refine TN_val (rr_lss rfl rfl (qF (by omega))) rfl rfl ?_ | refine TN_val (rr_neq rfl rfl (qT (by omega))) rfl rfl ?_ | refine TN_val (rr_neq rfl rfl (qF (by omega))) rfl rfl ?_)
        | refine TW_done ?_)
      refine TW_one rfl (TL_litN (cs := (tokC (r, a, t)).toArray) [.agg (tokC (r, a, t)).toArray] rfl rfl rfl (by intro v hv; simp at hv; subst hv; rfl) rfl rfl rfl fun g35 => (TW_on (sub_pick [2] (by decide) rfl) ?_))
      refine TW_one rfl (TL_appSl (i := 1) (e := 33) (size := 3) (bytes := 24) (m := l.length) (xs := l.flatMap tokC) (k := 1) (ys := tokC (r, a, t)) rfl (sl_blk (i := 3) rfl (fun j u h => by simpa using h) (Nat.le_refl 1) (by decide)) rfl rfl rfl (fun u hu => tok_one _ u hu) (by omega) (by omega) rfl fun v' => (TW_on (sub_pick [2] (by decide) rfl) ?_))
      repeat (first
        | ((first | refine TW_plain rfl rfl ?_ | refine TW_gmet rfl rfl rfl rfl ?_); first | refine TN_val (qp rfl) rfl rfl ?_ | refine TN_val (rr_strlen Und.eq rfl) rfl rfl ?_ | refine TN_val (qfld FldC.fld rfl rfl) rfl rfl ?_ | refine TN_val (rr_not rfl rfl) rfl rfl ?_ | refine TN_val (rr_lss rfl rfl (qT (by omega))) rfl rfl ?_ | refine TN_val (rr_lss rfl rfl (qF (by omega))) rfl rfl ?_ | refine TN_val (rr_neq rfl rfl (qT (by omega))) rfl rfl ?_ | refine TN_val (rr_neq rfl rfl (qF (by omega))) rfl rfl ?_)
        | refine TW_done ?_)
      repeat (first
        | refine qv rfl (qp rfl) rfl rfl ?_ | refine TL_nil ?_ | refine T_seq ?_ | refine T_region ?_ | refine qcT rfl ?_ | refine qcF rfl ?_ | refine T_skip ?_
        | refine T_exit ?_ | refine T_ret ?_ | refine T_block ?_ | refine E_then ?_ | refine E_thenX ?_ | refine E_thenR ?_ | refine E_blockN ?_
        | refine E_blockR ?_ | refine E_blockX ?_ | refine E_blockO rfl ?_ | refine qv rfl (rr_strlen Und.eq rfl) rfl rfl ?_
        | refine qv rfl (qfld FldC.fld rfl rfl) rfl rfl ?_ | refine qv rfl (rr_not rfl rfl) rfl rfl ?_
        | refine qv rfl (rr_lss rfl rfl (qT (by omega))) rfl rfl ?_ | refine qv rfl (rr_lss rfl rfl (qF (by omega))) rfl rfl ?_
        | refine qv rfl (rr_neq rfl rfl (qT (by omega))) rfl rfl ?_ | refine qv rfl (rr_neq rfl rfl (qF (by omega))) rfl rfl ?_)
      refine E_pick [0, 1] (by decide) rfl ?_
      exact E_round (t, l ++ [(r, a, t)], v', f) ⟨ht.2, by show (l ++ [_]).length ≤ t; rw [List.length_append, List.length_singleton]; omega, by show s.length < t + f; omega, by rw [i4]; simp⟩ (by show s.length - t < s.length - a; omega) (by repeat' (first | exact True.intro | refine And.intro rfl ?_)) (by dsimp only; rw [toks_snoc]; rfl)
  · have e : lexGo o N tags s f a = ([], 0, 0) := by
      cases f with
      | zero => rfl
      | succ f => rw [lexGo_succ, if_neg c1]
    rw [e] at i4
    subst i4
    repeat (first
      | refine qv rfl (qp rfl) rfl rfl ?_ | refine TL_nil ?_ | refine T_seq ?_ | refine T_region ?_ | refine qcT rfl ?_ | refine qcF rfl ?_ | refine T_skip ?_
      | refine T_exit ?_ | refine T_ret ?_ | refine T_block ?_ | refine E_then ?_ | refine E_thenX ?_ | refine E_thenR ?_ | refine E_blockN ?_
      | refine E_blockR ?_ | refine E_blockX ?_ | refine E_blockO rfl ?_ | refine qv rfl (rr_strlen Und.eq rfl) rfl rfl ?_
      | refine qv rfl (qfld FldC.fld rfl rfl) rfl rfl ?_ | refine qv rfl (rr_not rfl rfl) rfl rfl ?_
      | refine qv rfl (rr_lss rfl rfl (qT (by omega))) rfl rfl ?_ | refine qv rfl (rr_lss rfl rfl (qF (by omega))) rfl rfl ?_
      | refine qv rfl (rr_neq rfl rfl (qT (by omega))) rfl rfl ?_ | refine qv rfl (rr_neq rfl rfl (qF (by omega))) rfl rfl ?_)
    exact E_ret3 rfl rfl rfl rfl fun w hm => hm.meets (S := lexS (l ++ [], 0, 0)) v trivial [1] (by decide) (by unfold lexS; simp)
end Go.Proofs.Yteejnamdpdfocaa.eng

/- SmBk -/
namespace Go.Proofs.Yteejnamdpdfocaa.eng
open Go.RowKit kit mix dfaL smallL
theorem pkR_len (R : List Row) : (pkR R).length = R.length := by unfold pkR; simp
theorem pkR_get (R : List Row) {i : Nat} (h : i < R.length) : (pkR R)[i]'(by rw [pkR_len]; exact h) = nxL (pkD R 256) i := by unfold pkR; simp
theorem nxL_get (D : List Col) (i : Nat) {j : Nat} (h : j < D.length) : (nxL D i).getD j 0 = (D[j]).toList.getD i 0 := by
  unfold nxL
  rw [List.getD_eq_getElem?_getD, List.getElem?_map, List.getElem?_eq_getElem h]; rfl
theorem pk_cell (R : List Row) (hle : R.length ≤ 200) {i b : Nat} (hi : i < R.length) (hb : b < 256) : (nxL (pkD R 256) i).getD (pkN R b) 0 = cellF R i b := by
  have hm := pkD_mem R hb
  unfold pkN
  generalize pkD R 256 = D at *
  rw [nxL_get _ _ (idx_lt hm), idx_get (idx_lt hm), colF_get R b i hi hle]
theorem unR_get (o : Of) (N : List (List Int)) {i : Nat} (h : i < N.length) : (unR o N)[i]'(by rw [unR_len]; exact h) = Vector.ofFn fun b : Fin 256 => N[i].getD o[b] 0 := by
  unfold unR
  rw [List.getElem_map]
theorem un_pk (R : List Row) (hle : R.length ≤ 200) : unR (ofS R 256) (pkR R) = R := by
  refine List.ext_getElem (by rw [unR_len, pkR_len]) fun i h1 h2 => ?_
  have hi : i < R.length := h2
  rw [unR_get _ _ (by rw [pkR_len]; exact hi), pkR_get R hi]
  refine Vector.ext fun b hb => ?_
  rw [Vector.getElem_ofFn]
  have e : (ofS R 256)[b]'hb = pkN R b := by
    unfold ofS
    rw [Vector.getElem_ofFn]; simp [hb]
  show (nxL (pkD R 256) i).getD ((ofS R 256)[b]'hb) 0 = _
  rw [e, pk_cell R hle hi hb, cell_get hi hb]
theorem pkD_all {R : List Row} {c : Col} (h : c ∈ pkD R 256) : ∃ b, b < 256 ∧ c = colF R b := by
  unfold pkD at h
  rcases mem_firsts.1 h with h | h
  · cases h
  · obtain ⟨b, hb, rfl⟩ := List.mem_map.1 h
    exact ⟨b, by simpa using hb, rfl⟩
theorem nx_rng {R : List Row} {tags : List Int} (h : chk R tags = 0) {i : Nat} (hi : i < R.length) {x : Int} (hx : x ∈ nxL (pkD R 256) i) : -1 ≤ x ∧ x < R.length := by
  obtain ⟨hA, _⟩ := chk_ok h
  unfold nxL at hx
  obtain ⟨c, hc, rfl⟩ := List.mem_map.1 hx
  obtain ⟨b, hb, rfl⟩ := pkD_all hc
  rw [colF_get R b i hi hA.le, cell_get hi hb]
  have := hA.step i hi b hb
  rw [aut_d hi hb] at this
  exact this
theorem pk_ok {R : List Row} {tags : List Int} (h : chk R tags = 0) : PkOk (ofS R 256) (pkR R) tags (pkD R 256).length := by
  obtain ⟨hA, hl⟩ := chk_ok h
  have hle : R.length ≤ 200 := hA.le
  refine ⟨by rw [pkR_len]; exact hA.pos, by rw [pkR_len]; exact hle, by rw [pkR_len]; exact hl, List.length_pos_of_mem (pkD_mem R (show 0 < 256 by decide)), pkD_len R 256, fun i hi => ?_, fun i hi => ?_, fun i hi j hj => ?_, fun b hb => ?_⟩
  · rw [pkR_len] at hi
    rw [pkR_get R hi]
    unfold nxL; rw [List.length_map]
  · have := hA.tags i (show i < R.length by omega)
    rw [aut_tag hi] at this
    exact this
  · have hi' : i < R.length := by rw [pkR_len] at hi; exact hi
    have e := pkR_get R hi'
    have hx : (pkR R)[i][j] ∈ nxL (pkD R 256) i := e ▸ List.getElem_mem hj
    rw [pkR_len]
    exact nx_rng h hi' hx
  · have e : (ofS R 256)[b]'hb = pkN R b := by
      unfold ofS
      rw [Vector.getElem_ofFn]; simp [hb]
    rw [e]
    exact pkN_lt R hb
end Go.Proofs.Yteejnamdpdfocaa.eng

/- LexN -/
namespace Go.Proofs.Yteejnamdpdfocaa.lexL
open Go.RowKit kit mix eng smallL
/-- the same with whatever tells the next state -/
def goN (nx : Int → UInt8 → Int) (tags : List Int) : List UInt8 → Nat → Int → Int → Nat → Int × Nat
  | [], _, _, r, t => (r, t)
  | b :: s, i, now, r, t =>
    if nx now b < 0 then (r, t)
    else if 0 ≤ tags.getD (nx now b).toNat 0 then goN nx tags s (i + 1) (nx now b) (tags.getD (nx now b).toNat 0) (i + 1)
    else goN nx tags s (i + 1) (nx now b) r t
theorem goN_congr {nx nx' : Int → UInt8 → Int} {tags : List Int} {n : Nat} (h : ∀ (q : Nat), q < n → ∀ b, nx q b = nx' q b ∧ -1 ≤ nx q b ∧ nx q b < n) : ∀ (s : List UInt8) (i q : Nat) (r : Int) (t : Nat), q < n → goN nx tags s i q r t = goN nx' tags s i q r t
  | [], _, _, _, _, _ => rfl
  | b :: s, i, q, r, t, hq => by
    obtain ⟨h1, h2, h3⟩ := h q hq b
    unfold goN
    rw [← h1]
    by_cases c : nx q b < 0
    · rw [if_pos c, if_pos c]
    · rw [if_neg c, if_neg c]
      obtain ⟨z, hz⟩ := Int.eq_ofNat_of_zero_le (show 0 ≤ nx q b by omega)
      rw [hz] at h3 ⊢
      rw [goN_congr h s (i + 1) z _ _ (by omega), goN_congr h s (i + 1) z _ _ (by omega)]
theorem one_goN (o : Of) (N : List (List Int)) (tags : List Int) : ∀ (s : List UInt8) (i : Nat) (now r : Int) (t : Nat), oneGo o N tags s i now r t = goN (nxP o N) tags s i now r t
  | [], _, _, _, _ => rfl
  | b :: s, i, now, r, t => by
    rw [oneGo_cons, goN, one_goN o N tags s, one_goN o N tags s]
/-- by rows -/
def nxR (R : List Row) (now : Int) (b : UInt8) : Int := (R.getD now.toNat row0).toList.getD b.toNat 0
theorem nxP_un {o : Of} {N : List (List Int)} {tags : List Int} (h : PkGood o N tags) {q : Nat} (hq : q < N.length) (b : UInt8) : nxP o N (q : Int) b = nxR (unR o N) q b := by
  obtain ⟨_, hw, e, _⟩ := nxP_in h hq b
  rw [e]
  unfold nxR unR
  rw [Int.toNat_natCast, List.getD_eq_getElem?_getD (l := List.map _ _), List.getElem?_map, List.getElem?_eq_getElem hq, Option.map_some, Option.getD_some, List.getD_eq_getElem?_getD, List.getElem?_eq_getElem (by simpa using b.toNat_lt), Option.getD_some, Vector.getElem_toList, Vector.getElem_ofFn]
  show _ = N[q].getD (o[b.toNat]'b.toNat_lt) 0
  rw [List.getD_eq_getElem?_getD, List.getElem?_eq_getElem hw]; rfl
def oneR (R : List Row) (tags : List Int) (s : List UInt8) (fr : Nat) : Int × Nat := goN (nxR R) tags (s.drop fr) fr 0 0 0
theorem one_rows {o : Of} {N : List (List Int)} {tags : List Int} (h : PkGood o N tags) (s : List UInt8) (fr : Nat) : oneF o N tags s fr = oneR (unR o N) tags s fr := by
  unfold oneF oneR
  rw [one_goN]
  exact goN_congr (n := N.length) (fun q hq b => ⟨nxP_un h hq b, (nxP_in h hq b).2.2.2⟩) _ fr 0 0 0 h.pos
def lexR (R : List Row) (tags : List Int) (s : List UInt8) : Nat → Nat → List Tok × Nat × Int
  | 0, _ => ([], 0, 0)
  | f + 1, at' => if at' < s.length then (if (oneR R tags s at').2 = 0 then ([], at', 9) else ((((oneR R tags s at').1, at', (oneR R tags s at').2) :: (lexR R tags s f (oneR R tags s at').2).1), (lexR R tags s f (oneR R tags s at').2).2)) else ([], 0, 0)
theorem lex_rows {o : Of} {N : List (List Int)} {tags : List Int} (h : PkGood o N tags) (s : List UInt8) : ∀ f at', lexGo o N tags s f at' = lexR (unR o N) tags s f at'
  | 0, _ => rfl
  | f + 1, at' => by rw [lexGo_succ, lexR, one_rows h, lex_rows h s f]
theorem lexF_rows {o : Of} {N : List (List Int)} {tags : List Int} (h : PkGood o N tags) (s : List UInt8) : lexF o N tags s = lexR (unR o N) tags s (s.length + 1) 0 := lex_rows h s _ _
end Go.Proofs.Yteejnamdpdfocaa.lexL
namespace Go.Proofs.Yteejnamdpdfocaa.eng
open Go.RowKit kit mix smallL
/-- a packed automaton that was made -/
theorem Mem.pkI {B : Base} {w : World} {L : List Own} {i j k g : Nat} {R : List Row} {tags : List Int} {vs : Nat → Value} {vt : Value} (hm : Mem B L w) (hi : L[i]? = some (rowA 24 valV g R.length vs)) (hj : L[j]? = some (nxO R.length (pkD R 256) vs)) (hk : L[k]? = some (rowO 3 1 vt tags.length (tags.flatMap kit.intC))) (hc : chk R tags = 0) :
    PkI w (.slice (some ⟨g, 0, none⟩) R.length R.length) vt (pkR R) tags := by
  have h1 : (rowA 24 valV g R.length vs).holds w := hm.get hi
  have h2 : (nxO R.length (pkD R 256) vs).holds w := hm.get hj
  have ok := pk_ok hc
  refine ⟨⟨some ⟨g, 0, none⟩, R.length, by rw [pkR_len], by rw [pkR_len]; exact Nat.le_refl _, by have := ok.le; rw [pkR_len] at this; unfold maxLen; omega, fun h0 => ⟨g, 0, rfl, ?_, fun i hi => ⟨[vs i], ⟨vs i, rfl, ?_⟩, fun j u hj => ?_⟩⟩⟩, sl_row hk _ hm⟩
  · rw [pkR_len] at h0
    exact World.block_lt_of_cell? w _ (rowA_cell h1 h0)
  · have hi2 : i < R.length := by rw [pkR_len] at hi; exact hi
    have h3 : (rowO 3 1 (vs i) (pkD R 256).length ((nxL (pkD R 256) i).flatMap kit.intC)).holds w := h2.1 i hi2
    have h4 : Sl w (vs i) (pkD R 256).length ((nxL (pkD R 256) i).flatMap kit.intC) := Sl.of_own h3
    have e : (pkR R)[i] = nxL (pkD R 256) i := pkR_get R hi2
    have hl : (nxL (pkD R 256) i).length = (pkD R 256).length := List.length_map ..
    refine SlF.of_flat (by rw [e, hl]; exact h4) (fun x hx => ?_) (fun b hb => ?_) fun a n cp hv => ?_
    · obtain ⟨q, hq, rfl⟩ := List.mem_iff_getElem.1 hx
      have := ok.rng i hi q hq
      have := ok.le
      exact ⟨by omega, by omega⟩
    · exact Own.lt _ w h3 b (.inl hb)
    · exact Own.lt _ w h3 a.block (.inl (by rw [hv]; rfl))
  · have hi2 : i < R.length := by rw [pkR_len] at hi; exact hi
    have hj0 : j = 0 := by have := (List.getElem?_eq_some_iff.1 hj).1; simp at this; exact this
    subst hj0
    simp only [List.getElem?_cons_zero, Option.some.injEq] at hj
    subst hj
    have := rowA_cell h1 hi2
    show w.cell? ⟨g, 0 + i * 1 + 0, none⟩ = some (vs i)
    rw [Nat.mul_one, Nat.add_zero]
    exact this
theorem ofS_256 (R : List Row) : ∀ b (h : b < 256), (ofS R 256)[b] < 256 := fun b hb => by
  have e : (ofS R 256)[b]'hb = pkN R b := by
    unfold ofS
    rw [Vector.getElem_ofFn]; simp [hb]
  rw [e]
  exact pkN_256 R hb
theorem pk_good {R : List Row} {tags : List Int} (h : chk R tags = 0) : PkGood (ofS R 256) (pkR R) tags := by
  have ok := pk_ok h
  have : ((pkR R).headD []).length = (pkD R 256).length := by
    have h0 := ok.pos
    have := ok.row 0 h0
    cases hR : pkR R with
    | nil => rw [hR] at h0; simp at h0
    | cons x r => simp only [hR] at this; exact this
  unfold PkGood
  rw [this]
  exact ok
end Go.Proofs.Yteejnamdpdfocaa.eng

/- Abc -/
namespace Go.Proofs.Yteejnamdpdfocaa.eng
open Go.RowKit kit mix classL rexL placesL dfaP smallL classSets
def abcT : List Int := [-1, 2, 0, 2, 1]
theorem abc_chk : chk abcR abcT = 0 := by kernel_rfl
theorem abc_out : outD (abcM (rangeF 97 97) (rangeF 98 98) (rangeF 32 32)) = (abcR, abcT, 0) := by
  have h := abc_make
  cases hd : makeD (abcM (rangeF 97 97) (rangeF 98 98) (rangeF 32 32)) with
  | none => rw [hd] at h; cases h
  | some x =>
    rw [hd] at h
    simp only [Option.map_some, Option.some.injEq, Prod.mk.injEq] at h
    obtain ⟨R, d⟩ := x
    have h1 : R = abcR := h.1
    have h2 : d.tags = [-1, 2, 0, 2, 1] := h.2
    rw [outD_0 hd, h1, h2]; rfl
theorem abc_fit (a b c : C4) (ha : a ≠ C4.zero) (hb : b ≠ C4.zero) (hc : c ≠ C4.zero) : ∀ e ∈ abcE a b c, Fit e 1 0 := by
  intro e he
  simp only [abcE, List.mem_cons, List.not_mem_nil, or_false] at he
  rcases he with rfl | rfl | rfl
  · exact ⟨ha, by simp [Re.size], by simp [Re.hgt]⟩
  · exact ⟨⟨ha, hb⟩, by simp [Re.size], by simp [Re.hgt]⟩
  · exact ⟨⟨hc, hc⟩, by simp [Re.size], by simp [Re.hgt]⟩
theorem abc_made : MadeR ((abcE (rangeF 97 97) (rangeF 98 98) (rangeF 32 32)).map emb) (abcR, abcT, true) := by
  have hf := abc_fit (rangeF 97 97) (rangeF 98 98) (rangeF 32 32) (letter_nz (b := 97) (by decide)) (letter_nz (b := 98) (by decide)) (letter_nz (b := 32) (by decide))
  refine .inr ⟨_, _, rfl, hf, by simp [abcE], by simp [abcE], abc_loop _ _ _, ?_, by rw [abc_out]; rfl⟩
  rw [← abc_loop]
  exact make_fit (by simp [abcE]) (by simp [abcE]) hf
def abcS : Spec (Nat × (Nat → Value) × Value) := ⟨fun _ => True, fun x => pkV (ofS abcR 256) (.slice (some ⟨x.1, 0, none⟩) abcR.length abcR.length) x.2.2,
  fun x => [rowA 24 valV x.1 abcR.length x.2.1, nxO abcR.length (pkD abcR 256) x.2.1, rowO 3 1 x.2.2 abcT.length (abcT.flatMap kit.intC)]⟩
set_option maxRecDepth 100000 in
set_option maxHeartbeats 8000000 in
theorem abc_calls (w : World) : Calls Try.prog 6 #[] w (Meets abcS w) := by
  have la := fun w => letter_calls 97 w ⟨by decide, by decide⟩
  have lb := fun w => letter_calls 98 w ⟨by decide, by decide⟩
  have lc := fun w => letter_calls 32 w ⟨by decide, by decide⟩
  have ok3 : kit.okI64 3 := ⟨by decide, by decide⟩
  have ok4 : kit.okI64 4 := ⟨by decide, by decide⟩
  have hmd := fun g w' h => made_calls (.slice (some ⟨g, 0, none⟩) 3 3) _ _ w' h abc_made
  have hpk := fun vr vt w' h => pack_calls vr vt abcR abcT w' h abc_chk
  unfold packS at hpk
  unfold abcS
  have hR5 : abcR.length = 5 := rfl
  have hck := abc_chk
  generalize abcR = R at *
  generalize abcT = T at *
  unfold abcE at hmd
  generalize classL.rangeF 97 97 = ca at *
  generalize classL.rangeF 98 98 = cb at *
  generalize classL.rangeF 32 32 = cc at *
  have hmd : ∀ (g : Nat) (w' : World), SlF rexS (Low w') w' (.slice (some ⟨g, 0, none⟩) 3 3) [.mk 3 ca [], .mk 4 C4.zero [.mk 3 ca [], .mk 3 cb []], .mk 4 C4.zero [.mk 3 cc [], .mk 6 C4.zero [.mk 3 cc []]]] → Calls Try.prog 12 #[.slice (some ⟨g, 0, none⟩) 3 3] w' (Meets (mdSp (R, T, true)) w') := hmd
  refine enter (args := []) (n := 24) Try.func6 rfl rfl rfl ?_
  refine T_seq (T_region (TL_new rfl fun g0 => ?_))
  rw [zero_pk]
  conv => arg 8; simp only [zA, zB, zC, zD, zE, zF, zG, zH, zI, rowS, ret, id_eq]
  repeat (first
    | refine qv rfl (qp rfl) rfl rfl ?_ | refine TL_nil ?_ | refine T_seq ?_ | refine T_region ?_ | refine T_ret ?_ | refine E_then ?_ | refine E_thenR ?_)
  refine TL_call (he1 EntersC.en rfl rfl) (fun w hm => la _) rfl rfl rfl ?_
  intro _ _
  conv => arg 8; simp only [zA, zB, zC, zD, zE, zF, zG, zH, zI, rowS, ret, id_eq]
  repeat (first
    | refine qv rfl (qp rfl) rfl rfl ?_ | refine TL_nil ?_ | refine T_seq ?_ | refine T_region ?_ | refine T_ret ?_ | refine E_then ?_ | refine E_thenR ?_)
  refine TL_call (he1 EntersC.en rfl rfl) (fun w hm => la _) rfl rfl rfl ?_
  intro _ _
  conv => arg 8; simp only [zA, zB, zC, zD, zE, zF, zG, zH, zI, rowS, ret, id_eq]
  repeat (first
    | refine qv rfl (qp rfl) rfl rfl ?_ | refine TL_nil ?_ | refine T_seq ?_ | refine T_region ?_ | refine T_ret ?_ | refine E_then ?_ | refine E_thenR ?_)
  refine TL_call (he1 EntersC.en rfl rfl) (fun w hm => lb _) rfl rfl rfl ?_
  intro _ _
  conv => arg 8; simp only [zA, zB, zC, zD, zE, zF, zG, zH, zI, rowS, ret, id_eq]
  repeat (first
    | refine qv rfl (qp rfl) rfl rfl ?_ | refine TL_nil ?_ | refine T_seq ?_ | refine T_region ?_ | refine T_ret ?_ | refine E_then ?_ | refine E_thenR ?_)
  refine TL_call (he3 EntersC.en rfl rfl rfl rfl) (fun w hm => two_calls 4 3 3 ca cb none none 0 0 0 0 w) rfl rfl rfl ?_
  intro g9 _
  conv => arg 8; simp only [zA, zB, zC, zD, zE, zF, zG, zH, zI, rowS, ret, id_eq, twoS]
  repeat (first
    | refine qv rfl (qp rfl) rfl rfl ?_ | refine TL_nil ?_ | refine T_seq ?_ | refine T_region ?_ | refine T_ret ?_ | refine E_then ?_ | refine E_thenR ?_)
  refine TL_call (he1 EntersC.en rfl rfl) (fun w hm => lc _) rfl rfl rfl ?_
  intro _ _
  conv => arg 8; simp only [zA, zB, zC, zD, zE, zF, zG, zH, zI, rowS, ret, id_eq]
  repeat (first
    | refine qv rfl (qp rfl) rfl rfl ?_ | refine TL_nil ?_ | refine T_seq ?_ | refine T_region ?_ | refine T_ret ?_ | refine E_then ?_ | refine E_thenR ?_)
  refine TL_call (he1 EntersC.en rfl rfl) (fun w hm => lc _) rfl rfl rfl ?_
  intro _ _
  conv => arg 8; simp only [zA, zB, zC, zD, zE, zF, zG, zH, zI, rowS, ret, id_eq]
  repeat (first
    | refine qv rfl (qp rfl) rfl rfl ?_ | refine TL_nil ?_ | refine T_seq ?_ | refine T_region ?_ | refine T_ret ?_ | refine E_then ?_ | refine E_thenR ?_)
  refine TL_call (he1 EntersC.en rfl rfl) (fun w hm => star_calls 3 cc none 0 0 w) rfl rfl rfl ?_
  intro g12 _
  conv => arg 8; simp only [zA, zB, zC, zD, zE, zF, zG, zH, zI, rowS, ret, id_eq, starS]
  repeat (first
    | refine qv rfl (qp rfl) rfl rfl ?_ | refine TL_nil ?_ | refine T_seq ?_ | refine T_region ?_ | refine T_ret ?_ | refine E_then ?_ | refine E_thenR ?_)
  refine TL_call (he3 EntersC.en rfl rfl rfl rfl) (fun w hm => two_calls 4 3 6 cc C4.zero none (some ⟨g12, 0, none⟩) 0 1 0 1 w) rfl rfl rfl ?_
  intro g13 _
  conv => arg 8; simp only [zA, zB, zC, zD, zE, zF, zG, zH, zI, rowS, ret, id_eq, twoS]
  repeat (first
    | refine qv rfl (qp rfl) rfl rfl ?_ | refine TL_nil ?_ | refine T_seq ?_ | refine T_region ?_ | refine T_ret ?_ | refine E_then ?_ | refine E_thenR ?_)
  refine TL_litN (cs := [rexC 3 ca (.slice none 0 0), rexC 4 C4.zero (.slice (some ⟨g9, 0, none⟩) 2 2), rexC 4 C4.zero (.slice (some ⟨g13, 0, none⟩) 2 2)].flatten.toArray) [rexV 3 ca (.slice none 0 0), rexV 4 C4.zero (.slice (some ⟨g9, 0, none⟩) 2 2), rexV 4 C4.zero (.slice (some ⟨g13, 0, none⟩) 2 2)] rfl rfl rfl (by intro v hv; simp only [List.mem_cons, List.not_mem_nil, or_false] at hv; rcases hv with rfl | rfl | rfl <;> rfl) rfl rfl rfl fun g14 => ?_
  conv => arg 8; simp only [zA, zB, zC, zD, zE, zF, zG, zH, zI, rowS, ret, id_eq]
  refine TL_call (he1 EntersC.en rfl rfl) (fun w hm => hmd g14 w (rexs_3 (hm.get (i := 4) rfl) (leaf_rex ok3) (two_rexK ok4 (hm.get (i := 1) rfl) (leaf_rex ok3) (leaf_rex ok3)) (two_rexK ok4 (hm.get (i := 3) rfl) (leaf_rex ok3) (star_rexK (hm.get (i := 2) rfl) (leaf_rex ok3))))) rfl rfl rfl ?_
  rintro ⟨vrr, vtt⟩ _
  conv => arg 8; simp only [zA, zB, zC, zD, zE, zF, zG, zH, zI, rowS, ret, id_eq, mdSp, dfaV]
  conv => arg 7; simp only [mdSp, dfaV]
  refine TL_pick [0, 5, 6] (by decide) rfl ?_
  refine TL_slv (i := 1) rfl fun _ a1 => TL_slv (i := 2) rfl fun _ a2 => ?_
  repeat (first
    | refine qv rfl (qp rfl) rfl rfl ?_ | refine TL_nil ?_ | refine T_seq ?_ | refine T_region ?_ | refine T_ret ?_ | refine E_then ?_ | refine E_thenR ?_)
  refine TL_new rfl fun g1 => ?_
  conv => arg 8; simp only [zA, zB, zC, zD, zE, zF, zG, zH, zI, rowS, ret, id_eq]
  refine TL_storeB (i := 3) (cs' := #[vrr, vtt]) rfl rfl rfl rfl (by simp only [List.all_cons, List.all_nil, a1, a2]; rfl) rfl ?_
  conv => arg 8; simp only [zA, zB, zC, zD, zE, zF, zG, zH, zI, rowS, ret, id_eq]
  clear hmd
  repeat (first
    | refine qv rfl (qp rfl) rfl rfl ?_ | refine TL_nil ?_ | refine T_seq ?_ | refine T_region ?_ | refine T_ret ?_ | refine E_then ?_ | refine E_thenR ?_
    | refine qv rfl (rr_loadB (i := 3) TyC.ty rfl rfl rfl) rfl rfl ?_)
  refine TL_call (he1 EntersC.en rfl rfl) (fun w hm => hpk _ _ w (hm.dfaM (i := 1) (j := 2) rfl (by rw [int_flat]; rfl) hck)) rfl rfl rfl ?_
  rintro ⟨gN, vs, vT⟩ _
  conv => arg 8; simp only [zA, zB, zC, zD, zE, zF, zG, zH, zI, rowS, ret, id_eq]
  refine TL_slv (i := 6) rfl fun _ a3 => ?_
  repeat (first
    | refine qv rfl (qp rfl) rfl rfl ?_ | refine TL_nil ?_ | refine T_seq ?_ | refine T_region ?_ | refine T_ret ?_ | refine E_then ?_ | refine E_thenR ?_)
  refine TL_new rfl fun g3 => ?_
  rw [zero_pk]
  conv => arg 8; simp only [zA, zB, zC, zD, zE, zF, zG, zH, zI, rowS, ret, id_eq]
  refine TL_storeB (i := 7) (cs' := (pkC (ofS R 256) (.slice (some ⟨gN, 0, none⟩) R.length R.length) vT).toArray) rfl rfl rfl (pk_size _ _ _) (pk_one _ rfl a3) (pk_size _ _ _) ?_
  conv => arg 8; simp only [zA, zB, zC, zD, zE, zF, zG, zH, zI, rowS, ret, id_eq]
  repeat (first
    | refine qv rfl (qp rfl) rfl rfl ?_ | refine TL_nil ?_ | refine T_seq ?_ | refine T_region ?_ | refine T_ret ?_ | refine E_then ?_ | refine E_thenR ?_
    | refine qv rfl (rr_loadB (i := 7) TyC.ty rfl rfl (pk_size _ _ _)) rfl rfl ?_)
  refine TL_storeB (i := 0) (cs' := (pkC (ofS R 256) (.slice (some ⟨gN, 0, none⟩) R.length R.length) vT).toArray) rfl rfl rfl (pk_size _ _ _) (pk_one _ rfl a3) (pk_size _ _ _) ?_
  conv => arg 8; simp only [zA, zB, zC, zD, zE, zF, zG, zH, zI, rowS, ret, id_eq]
  repeat (first
    | refine qv rfl (qp rfl) rfl rfl ?_ | refine TL_nil ?_ | refine T_seq ?_ | refine T_region ?_ | refine T_ret ?_ | refine E_then ?_ | refine E_thenR ?_)
  exact E_retc1 (i := 0) rfl rfl rfl (pk_size _ _ _) fun w hm => hm.meets (S := ⟨fun (_ : Nat × (Nat → Value) × Value) => True, fun x => pkV (ofS R 256) (.slice (some ⟨x.1, 0, none⟩) R.length R.length) x.2.2, fun x => [rowA 24 valV x.1 R.length x.2.1, nxO R.length (pkD R 256) x.2.1, rowO 3 1 x.2.2 T.length (T.flatMap kit.intC)]⟩) (gN, vs, vT) trivial [4, 5, 6] (by decide) rfl
end Go.Proofs.Yteejnamdpdfocaa.eng

/- LexV -/
namespace Go.Proofs.Yteejnamdpdfocaa.lexL
open Go.RowKit kit mix eng smallL
/-- tokens stand one behind the other, from a place on -/
def coverE : List Tok → Nat → Nat
  | [], e => e
  | t :: l, _ => coverE l t.2.2
def Covers : List Tok → Nat → Prop
  | [], _ => True
  | t :: l, e => t.2.1 = e ∧ e < t.2.2 ∧ Covers l t.2.2
theorem covers_at : ∀ {l : List Tok} {e k : Nat}, Covers l e → (h : k < l.length) → l[k].2.1 = coverE (l.take k) e ∧ coverE (l.take k) e < l[k].2.2 ∧ coverE (l.take (k + 1)) e = l[k].2.2
  | t :: l, e, 0, h, _ => ⟨h.1, h.2.1, by cases l <;> rfl⟩
  | t :: l, e, k + 1, h, hk => by
    have := covers_at (k := k) h.2.2 (by simpa using hk)
    exact this
theorem lexGo_covers {o : Of} {N : List (List Int)} {tags : List Int} {s : List UInt8} : ∀ (f a : Nat), a ≤ s.length → s.length < a + f → Covers (lexGo o N tags s f a).1 a ∧
    (((lexGo o N tags s f a).2 = (0, 0) ∧ coverE (lexGo o N tags s f a).1 a = s.length) ∨ ((lexGo o N tags s f a).2.2 = 9 ∧ coverE (lexGo o N tags s f a).1 a = (lexGo o N tags s f a).2.1 ∧ (lexGo o N tags s f a).2.1 < s.length))
  | 0, a, h1, h2 => by omega
  | f + 1, a, h1, h2 => by
    rw [lexGo_succ]
    by_cases c : a < s.length
    · rw [if_pos c]
      by_cases c2 : (oneF o N tags s a).2 = 0
      · rw [if_pos c2]
        exact ⟨trivial, .inr ⟨rfl, rfl, c⟩⟩
      · rw [if_neg c2]
        have ht := (oneF_to (o := o) (N := N) (tags := tags) h1).resolve_left c2
        obtain ⟨q1, q2⟩ := lexGo_covers (o := o) (N := N) (tags := tags) (s := s) f (oneF o N tags s a).2 ht.2 (by omega)
        exact ⟨⟨rfl, ht.1, q1⟩, q2⟩
    · rw [if_neg c]
      exact ⟨trivial, .inl ⟨rfl, by show a = s.length; omega⟩⟩
end Go.Proofs.Yteejnamdpdfocaa.lexL

/- LexerCoversW -/
namespace Go.Proofs.Yteejnamdpdfocaa.lexerCovers
open Go.RowKit kit mix eng smallL lexL dfaP
theorem abc_lex (s : List UInt8) (hs : s.length ≤ 2000) : lexA (ofS abcR 256) (pkR abcR) abcT s = lexR abcR abcT s (s.length + 1) 0 := by
  have hg := pk_good abc_chk
  rw [lexA_ok (chkP_0 hg) hs, lexF_rows hg, un_pk abcR (by decide)]
theorem abc_law : lexA (ofS abcR 256) (pkR abcR) abcT [97, 32, 97, 98] = ([(0, 0, 1), (2, 1, 2), (1, 2, 4)], 0, 0) := by
  rw [abc_lex _ (by decide)]
  kernel_rfl
set_option maxRecDepth 100000 in
set_option maxHeartbeats 8000000 in
theorem walk (w : World) (v : Value) (o : Of) (N : List (List Int)) (tags : List Int) (vn vt : Value) (hv : v = pkV o vn vt) (ho : ∀ b (h : b < 256), o[b] < 256) (hp : PkI w vn vt N tags) (_ : N.length * 24 ≤ 140737488351232) (_ : tags.length * 8 ≤ 140737488351232) (_ : ∀ l ∈ N, l.length * 8 ≤ 140737488351232) (s : List UInt8) (hs : s.length ≤ 140737488351232) :
    Calls Try.prog 3 #[v, str s] w (Meets (ret (.bool true)) w) := by
  subst hv
  have hlx := fun w' (hg : Gr w w') => lex_calls o vn vt N tags s w' (hp.gr hg) ho (by omega)
  obtain ⟨⟨an, cn, rfl, -⟩, at', ct, rfl, -⟩ := hp
  have hl0 := fun vn vt w' h => lex_calls (ofS abcR 256) vn vt (pkR abcR) abcT [97, 32, 97, 98] w' h (ofS_256 abcR) (by decide)
  rw [abc_law] at hl0
  have hpk := abc_chk
  have habc := abc_calls
  unfold abcS at habc
  generalize abcR = R at *
  generalize abcT = T at *
  have hcase : ((lexA o N tags s).2.2 ≠ 0 ∧ (lexA o N tags s).2.2 ≠ 9 ∧ lexA o N tags s = ([], 0, (lexA o N tags s).2.2)) ∨ (Covers (lexA o N tags s).1 0 ∧ (((lexA o N tags s).2 = (0, 0) ∧ coverE (lexA o N tags s).1 0 = s.length) ∨ ((lexA o N tags s).2.2 = 9 ∧ coverE (lexA o N tags s).1 0 = (lexA o N tags s).2.1 ∧ (lexA o N tags s).2.1 < s.length))) := by
    by_cases c1 : chkP o N tags = 0
    · by_cases c2 : 2000 < s.length
      · left
        have : lexA o N tags s = ([], 0, 2) := by unfold lexA; rw [if_neg (by simpa using c1), if_pos c2]
        rw [this]; exact ⟨by decide, by decide, rfl⟩
      · right
        rw [lexA_ok c1 (by omega)]
        exact lexGo_covers (s.length + 1) 0 (Nat.zero_le _) (by omega)
    · left
      have : lexA o N tags s = ([], 0, chkP o N tags) := by unfold lexA; rw [if_pos c1]
      rw [this]
      refine ⟨c1, ?_, rfl⟩
      rcases chkP_cases o N tags with h | h | h <;> rw [h] <;> decide
  generalize lexA o N tags s = L at *
  obtain ⟨l, a, e⟩ := L
  dsimp only at hcase
  refine enter (args := [pkV o (.slice an N.length cn) (.slice at' tags.length ct), str s]) (n := 100) Try.func3 rfl rfl rfl ?_
  refine T_seq (T_region (TL_box rfl rfl rfl fun g2 => ?_))
  conv => arg 8; simp only [zA, zB, zC, zD, zE, zF, zG, zH, zI, rowS, ret, id_eq]
  repeat (first
    | refine qv rfl (qp rfl) rfl rfl ?_ | refine TL_nil ?_ | refine T_seq ?_ | refine T_region ?_ | refine qcT rfl ?_ | refine qcF rfl ?_ | refine T_skip ?_
    | refine T_exit ?_ | refine T_ret ?_ | refine T_block ?_ | refine E_then ?_ | refine E_thenX ?_ | refine E_thenR ?_ | refine E_blockN ?_
    | refine E_blockR ?_ | refine E_blockX ?_ | refine E_blockO rfl ?_ | refine qs rfl rfl rfl rfl rfl rfl ?_
    | ((try refine qg rfl rfl rfl ?_); first | refine qv rfl (qp rfl) rfl rfl ?_ | refine qv rfl (rr_strlen Und.eq rfl) rfl rfl ?_ | refine qv rfl (qlen Und.eq rfl) rfl rfl ?_ | refine qv rfl (qfld FldC.fld rfl rfl) rfl rfl ?_ | refine qv rfl (rr_lss rfl rfl (qT (by omega))) rfl rfl ?_ | refine qv rfl (rr_lss rfl rfl (qF (by omega))) rfl rfl ?_ | refine qv rfl (rr_eql rfl rfl (qT (by omega))) rfl rfl ?_ | refine qv rfl (rr_eql rfl rfl (qF (by omega))) rfl rfl ?_ | refine qv rfl (rr_neq rfl rfl (qT (by omega))) rfl rfl ?_ | refine qv rfl (rr_neq rfl rfl (qF (by omega))) rfl rfl ?_ | refine qv rfl (rr_add64 rfl rfl (by omega) (by omega) rfl) rfl rfl ?_ | refine qv rfl (rr_leq rfl rfl (qT (by omega))) rfl rfl ?_ | refine qv rfl (rr_leq rfl rfl (qF (by omega))) rfl rfl ?_))
  refine TL_call (he0 EntersC.en rfl) (fun w hm => habc w) rfl rfl rfl ?_
  rintro ⟨gN, vs, vT⟩ _
  conv => arg 8; simp only [zA, zB, zC, zD, zE, zF, zG, zH, zI, rowS, ret, id_eq]
  repeat (first
    | refine qv rfl (qp rfl) rfl rfl ?_ | refine TL_nil ?_ | refine T_seq ?_ | refine T_region ?_ | refine qcT rfl ?_ | refine qcF rfl ?_ | refine T_skip ?_
    | refine T_exit ?_ | refine T_ret ?_ | refine T_block ?_ | refine E_then ?_ | refine E_thenX ?_ | refine E_thenR ?_ | refine E_blockN ?_
    | refine E_blockR ?_ | refine E_blockX ?_ | refine E_blockO rfl ?_ | refine qs rfl rfl rfl rfl rfl rfl ?_
    | ((try refine qg rfl rfl rfl ?_); first | refine qv rfl (qp rfl) rfl rfl ?_ | refine qv rfl (rr_strlen Und.eq rfl) rfl rfl ?_ | refine qv rfl (qlen Und.eq rfl) rfl rfl ?_ | refine qv rfl (qfld FldC.fld rfl rfl) rfl rfl ?_ | refine qv rfl (rr_lss rfl rfl (qT (by omega))) rfl rfl ?_ | refine qv rfl (rr_lss rfl rfl (qF (by omega))) rfl rfl ?_ | refine qv rfl (rr_eql rfl rfl (qT (by omega))) rfl rfl ?_ | refine qv rfl (rr_eql rfl rfl (qF (by omega))) rfl rfl ?_ | refine qv rfl (rr_neq rfl rfl (qT (by omega))) rfl rfl ?_ | refine qv rfl (rr_neq rfl rfl (qF (by omega))) rfl rfl ?_ | refine qv rfl (rr_add64 rfl rfl (by omega) (by omega) rfl) rfl rfl ?_ | refine qv rfl (rr_leq rfl rfl (qT (by omega))) rfl rfl ?_ | refine qv rfl (rr_leq rfl rfl (qF (by omega))) rfl rfl ?_))
  refine TL_call (he2 EntersC.en rfl rfl rfl) (fun w hm => hl0 _ _ w (hm.pkI (i := 1) (j := 2) (k := 3) rfl rfl rfl hpk)) rfl rfl rfl ?_
  intro vl _
  conv => arg 8; simp only [zA, zB, zC, zD, zE, zF, zG, zH, zI, rowS, ret, id_eq, lexS]
  conv => arg 7; simp only [lexS]
  refine TL_know (i := 4) rfl row_sl fun hrow => ?_
  obtain ⟨avl, cvl, rfl, havl⟩ := hrow
  obtain ⟨gl, rfl⟩ := havl (by decide)
  repeat (first
    | refine qv rfl (qp rfl) rfl rfl ?_ | refine TL_nil ?_ | refine T_seq ?_ | refine T_region ?_ | refine qcT rfl ?_ | refine qcF rfl ?_ | refine T_skip ?_
    | refine T_exit ?_ | refine T_ret ?_ | refine T_block ?_ | refine E_then ?_ | refine E_thenX ?_ | refine E_thenR ?_ | refine E_blockN ?_
    | refine E_blockR ?_ | refine E_blockX ?_ | refine E_blockO rfl ?_ | refine qs rfl rfl rfl rfl rfl rfl ?_
    | ((try refine qg rfl rfl rfl ?_); first | refine qv rfl (qp rfl) rfl rfl ?_ | refine qv rfl (rr_neq (b := false) rfl rfl (decide_eq_false (by decide))) rfl rfl ?_ | refine qv rfl (rr_idxc (j := 2) Und.eq TyC.ty rfl rfl (by decide)) rfl rfl ?_ | refine qv rfl (rr_load1 (v := .int .i64 1) TyC.ty rfl (at_row (i := 4) rfl rfl)) rfl rfl ?_ | refine qv rfl (rr_strlen Und.eq rfl) rfl rfl ?_ | refine qv rfl (qlen Und.eq rfl) rfl rfl ?_ | refine qv rfl (qfld FldC.fld rfl rfl) rfl rfl ?_ | refine qv rfl (rr_lss rfl rfl (qT (by omega))) rfl rfl ?_ | refine qv rfl (rr_lss rfl rfl (qF (by omega))) rfl rfl ?_ | refine qv rfl (rr_eql rfl rfl (qT (by omega))) rfl rfl ?_ | refine qv rfl (rr_eql rfl rfl (qF (by omega))) rfl rfl ?_ | refine qv rfl (rr_neq rfl rfl (qT (by omega))) rfl rfl ?_ | refine qv rfl (rr_neq rfl rfl (qF (by omega))) rfl rfl ?_ | refine qv rfl (rr_add64 rfl rfl (by omega) (by omega) rfl) rfl rfl ?_ | refine qv rfl (rr_leq rfl rfl (qT (by omega))) rfl rfl ?_ | refine qv rfl (rr_leq rfl rfl (qF (by omega))) rfl rfl ?_))
  refine TL_pick [0] (by decide) rfl ?_
  repeat (first
    | refine qv rfl (qp rfl) rfl rfl ?_ | refine TL_nil ?_ | refine T_seq ?_ | refine T_region ?_ | refine qcT rfl ?_ | refine qcF rfl ?_ | refine T_skip ?_
    | refine T_exit ?_ | refine T_ret ?_ | refine T_block ?_ | refine E_then ?_ | refine E_thenX ?_ | refine E_thenR ?_ | refine E_blockN ?_
    | refine E_blockR ?_ | refine E_blockX ?_ | refine E_blockO rfl ?_ | refine qs rfl rfl rfl rfl rfl rfl ?_
    | ((try refine qg rfl rfl rfl ?_); first | refine qv rfl (qp rfl) rfl rfl ?_ | refine qv rfl (rr_loadB (i := 0) TyC.ty rfl rfl (pk_size _ _ _)) rfl rfl ?_ | refine qv rfl (rr_strlen Und.eq rfl) rfl rfl ?_ | refine qv rfl (qlen Und.eq rfl) rfl rfl ?_ | refine qv rfl (qfld FldC.fld rfl rfl) rfl rfl ?_ | refine qv rfl (rr_lss rfl rfl (qT (by omega))) rfl rfl ?_ | refine qv rfl (rr_lss rfl rfl (qF (by omega))) rfl rfl ?_ | refine qv rfl (rr_eql rfl rfl (qT (by omega))) rfl rfl ?_ | refine qv rfl (rr_eql rfl rfl (qF (by omega))) rfl rfl ?_ | refine qv rfl (rr_neq rfl rfl (qT (by omega))) rfl rfl ?_ | refine qv rfl (rr_neq rfl rfl (qF (by omega))) rfl rfl ?_ | refine qv rfl (rr_add64 rfl rfl (by omega) (by omega) rfl) rfl rfl ?_ | refine qv rfl (rr_leq rfl rfl (qT (by omega))) rfl rfl ?_ | refine qv rfl (rr_leq rfl rfl (qF (by omega))) rfl rfl ?_))
  refine TL_call (he2 EntersC.en rfl rfl rfl) (fun w hm => hlx _ hm.below) rfl rfl rfl ?_
  intro vm _
  conv => arg 8; simp only [zA, zB, zC, zD, zE, zF, zG, zH, zI, rowS, ret, id_eq, lexS]
  conv => arg 7; simp only [lexS]
  refine TL_know (i := 1) rfl row_slm fun hrow => ?_
  obtain ⟨am, cm, rfl, hmm, ham⟩ := hrow
  clear hlx hl0 habc
  rcases hcase with ⟨h1, h2, h3⟩ | ⟨hcv, hend⟩
  · cases h3
    repeat (first
      | refine qv rfl (qp rfl) rfl rfl ?_ | refine TL_nil ?_ | refine T_seq ?_ | refine T_region ?_ | refine qcT rfl ?_ | refine qcF rfl ?_ | refine T_skip ?_
      | refine T_exit ?_ | refine T_ret ?_ | refine T_block ?_ | refine E_then ?_ | refine E_thenX ?_ | refine E_thenR ?_ | refine E_blockN ?_
      | refine E_blockR ?_ | refine E_blockX ?_ | refine E_blockO rfl ?_ | refine qs rfl rfl rfl rfl rfl rfl ?_
      | ((try refine qg rfl rfl rfl ?_); first | refine qv rfl (qp rfl) rfl rfl ?_ | refine qv rfl (rr_neq (b := true) rfl rfl (decide_eq_true h1)) rfl rfl ?_ | refine qv rfl (rr_neq (b := true) rfl rfl (decide_eq_true h2)) rfl rfl ?_ | refine qv rfl (rr_eql (b := true) rfl rfl (decide_eq_true rfl)) rfl rfl ?_ | refine qv rfl (rr_strlen Und.eq rfl) rfl rfl ?_ | refine qv rfl (qlen Und.eq rfl) rfl rfl ?_ | refine qv rfl (qfld FldC.fld rfl rfl) rfl rfl ?_ | refine qv rfl (rr_lss rfl rfl (qT (by omega))) rfl rfl ?_ | refine qv rfl (rr_lss rfl rfl (qF (by omega))) rfl rfl ?_ | refine qv rfl (rr_eql rfl rfl (qT (by omega))) rfl rfl ?_ | refine qv rfl (rr_eql rfl rfl (qF (by omega))) rfl rfl ?_ | refine qv rfl (rr_neq rfl rfl (qT (by omega))) rfl rfl ?_ | refine qv rfl (rr_neq rfl rfl (qF (by omega))) rfl rfl ?_ | refine qv rfl (rr_add64 rfl rfl (by omega) (by omega) rfl) rfl rfl ?_ | refine qv rfl (rr_leq rfl rfl (qT (by omega))) rfl rfl ?_ | refine qv rfl (rr_leq rfl rfl (qF (by omega))) rfl rfl ?_))
    exact E_ret1e rfl rfl rfl
  · rcases hend with ⟨h1, h2⟩ | ⟨h1, h2, h3⟩
    · cases h1
      repeat (first
        | refine qv rfl (qp rfl) rfl rfl ?_ | refine TL_nil ?_ | refine T_seq ?_ | refine T_region ?_ | refine qcT rfl ?_ | refine qcF rfl ?_ | refine T_skip ?_
        | refine T_exit ?_ | refine T_ret ?_ | refine T_block ?_ | refine E_then ?_ | refine E_thenX ?_ | refine E_thenR ?_ | refine E_blockN ?_
        | refine E_blockR ?_ | refine E_blockX ?_ | refine E_blockO rfl ?_ | refine qs rfl rfl rfl rfl rfl rfl ?_
        | ((try refine qg rfl rfl rfl ?_); first | refine qv rfl (qp rfl) rfl rfl ?_ | refine qv rfl (rr_neq (b := false) rfl rfl (decide_eq_false (by decide))) rfl rfl ?_ | refine qv rfl (rr_strlen Und.eq rfl) rfl rfl ?_ | refine qv rfl (qlen Und.eq rfl) rfl rfl ?_ | refine qv rfl (qfld FldC.fld rfl rfl) rfl rfl ?_ | refine qv rfl (rr_lss rfl rfl (qT (by omega))) rfl rfl ?_ | refine qv rfl (rr_lss rfl rfl (qF (by omega))) rfl rfl ?_ | refine qv rfl (rr_eql rfl rfl (qT (by omega))) rfl rfl ?_ | refine qv rfl (rr_eql rfl rfl (qF (by omega))) rfl rfl ?_ | refine qv rfl (rr_neq rfl rfl (qT (by omega))) rfl rfl ?_ | refine qv rfl (rr_neq rfl rfl (qF (by omega))) rfl rfl ?_ | refine qv rfl (rr_add64 rfl rfl (by omega) (by omega) rfl) rfl rfl ?_ | refine qv rfl (rr_leq rfl rfl (qT (by omega))) rfl rfl ?_ | refine qv rfl (rr_leq rfl rfl (qF (by omega))) rfl rfl ?_))
      refine T_pick [1] (by decide) rfl ?_
      refine T_loop (ι := Nat) (fun k => k ≤ l.length) (fun k => [(1, str s), (9, .int .i64 0), (10, .int .i64 0), (11, .int .i64 (coverE (l.take k) 0 : Int)), (54, .slice am l.length cm), (55, .int .i64 l.length), (56, .int .i64 (k : Int))]) (fun k => [toksO (.slice am l.length cm) l]) (fun k => l.length - k) 0 (Nat.zero_le _) (by repeat' (first | exact True.intro | refine And.intro rfl ?_)) rfl ?_
      intro k hk
      by_cases c1 : k < l.length
      · obtain ⟨gm, rfl⟩ := ham (by omega)
        have hat := fun (W : Base) (L : List Own) (i : Nat) (hi : L[i]? = some (toksO (.slice (some ⟨gm, 0, none⟩) l.length cm) l)) => fun (j : Nat) (u : Value) (h : (tokC l[k])[j]? = some u) => at_rowel (W := W) tokC_len hi c1 j u h
        obtain ⟨v1, v2, v3⟩ := covers_at hcv c1
        generalize hx : l[k] = x at *
        clear hx
        obtain ⟨r, fr, tt⟩ := x
        dsimp only at v1 v2 v3
        subst v3
        repeat (first
          | refine qv rfl (qp rfl) rfl rfl ?_ | refine TL_nil ?_ | refine T_seq ?_ | refine T_region ?_ | refine qcT rfl ?_ | refine qcF rfl ?_ | refine T_skip ?_
          | refine T_exit ?_ | refine T_ret ?_ | refine T_block ?_ | refine E_then ?_ | refine E_thenX ?_ | refine E_thenR ?_ | refine E_blockN ?_
          | refine E_blockR ?_ | refine E_blockX ?_ | refine E_blockO rfl ?_ | refine qs rfl rfl rfl rfl rfl rfl ?_
          | ((try refine qg rfl rfl rfl ?_); first | refine qv rfl (qp rfl) rfl rfl ?_ | refine qv rfl (rr_idxc Und.eq TyC.ty rfl rfl c1) rfl rfl ?_ | refine qv rfl (rr_loadN TyC.ty rfl rfl (hat _ _ 0 rfl)) rfl rfl ?_ | refine qv rfl (rr_strlen Und.eq rfl) rfl rfl ?_ | refine qv rfl (qlen Und.eq rfl) rfl rfl ?_ | refine qv rfl (qfld FldC.fld rfl rfl) rfl rfl ?_ | refine qv rfl (rr_lss rfl rfl (qT (by omega))) rfl rfl ?_ | refine qv rfl (rr_lss rfl rfl (qF (by omega))) rfl rfl ?_ | refine qv rfl (rr_eql rfl rfl (qT (by omega))) rfl rfl ?_ | refine qv rfl (rr_eql rfl rfl (qF (by omega))) rfl rfl ?_ | refine qv rfl (rr_neq rfl rfl (qT (by omega))) rfl rfl ?_ | refine qv rfl (rr_neq rfl rfl (qF (by omega))) rfl rfl ?_ | refine qv rfl (rr_add64 rfl rfl (by omega) (by omega) rfl) rfl rfl ?_ | refine qv rfl (rr_leq rfl rfl (qT (by omega))) rfl rfl ?_ | refine qv rfl (rr_leq rfl rfl (qF (by omega))) rfl rfl ?_))
        refine TL_new rfl fun g13 => ?_
        conv => arg 8; simp only [zA, zB, zC, zD, zE, zF, zG, zH, zI, rowS, ret, id_eq]
        repeat (first
          | refine qv rfl (qp rfl) rfl rfl ?_ | refine TL_nil ?_ | refine T_seq ?_ | refine T_region ?_ | refine qcT rfl ?_ | refine qcF rfl ?_ | refine T_skip ?_
          | refine T_exit ?_ | refine T_ret ?_ | refine T_block ?_ | refine E_then ?_ | refine E_thenX ?_ | refine E_thenR ?_ | refine E_blockN ?_
          | refine E_blockR ?_ | refine E_blockX ?_ | refine E_blockO rfl ?_ | refine qs rfl rfl rfl rfl rfl rfl ?_
          | ((try refine qg rfl rfl rfl ?_); first | refine qv rfl (qp rfl) rfl rfl ?_ | refine qv rfl (rr_strlen Und.eq rfl) rfl rfl ?_ | refine qv rfl (qlen Und.eq rfl) rfl rfl ?_ | refine qv rfl (qfld FldC.fld rfl rfl) rfl rfl ?_ | refine qv rfl (rr_lss rfl rfl (qT (by omega))) rfl rfl ?_ | refine qv rfl (rr_lss rfl rfl (qF (by omega))) rfl rfl ?_ | refine qv rfl (rr_eql rfl rfl (qT (by omega))) rfl rfl ?_ | refine qv rfl (rr_eql rfl rfl (qF (by omega))) rfl rfl ?_ | refine qv rfl (rr_neq rfl rfl (qT (by omega))) rfl rfl ?_ | refine qv rfl (rr_neq rfl rfl (qF (by omega))) rfl rfl ?_ | refine qv rfl (rr_add64 rfl rfl (by omega) (by omega) rfl) rfl rfl ?_ | refine qv rfl (rr_leq rfl rfl (qT (by omega))) rfl rfl ?_ | refine qv rfl (rr_leq rfl rfl (qF (by omega))) rfl rfl ?_))
        refine TL_storeB (i := 1) (cs' := (tokC (r, fr, coverE (l.take (k + 1)) 0)).toArray) rfl rfl rfl rfl rfl rfl ?_
        conv => arg 8; simp only [zA, zB, zC, zD, zE, zF, zG, zH, zI, rowS, ret, id_eq]
        repeat (first
          | refine qv rfl (qp rfl) rfl rfl ?_ | refine TL_nil ?_ | refine T_seq ?_ | refine T_region ?_ | refine qcT rfl ?_ | refine qcF rfl ?_ | refine T_skip ?_
          | refine T_exit ?_ | refine T_ret ?_ | refine T_block ?_ | refine E_then ?_ | refine E_thenX ?_ | refine E_thenR ?_ | refine E_blockN ?_
          | refine E_blockR ?_ | refine E_blockX ?_ | refine E_blockO rfl ?_ | refine qs rfl rfl rfl rfl rfl rfl ?_
          | ((try refine qg rfl rfl rfl ?_); first | refine qv rfl (qp rfl) rfl rfl ?_ | refine qv rfl (rr_load1 (v := .int .i64 (fr : Int)) TyC.ty rfl (at_blk (i := 1) rfl rfl)) rfl rfl ?_ | refine qv rfl (rr_neq (b := false) rfl rfl (decide_eq_false (by omega))) rfl rfl ?_ | refine qv rfl (rr_load1 (v := .int .i64 (coverE (l.take (k + 1)) 0 : Int)) TyC.ty rfl (at_blk (i := 1) rfl rfl)) rfl rfl ?_ | refine qv rfl (rr_strlen Und.eq rfl) rfl rfl ?_ | refine qv rfl (qlen Und.eq rfl) rfl rfl ?_ | refine qv rfl (qfld FldC.fld rfl rfl) rfl rfl ?_ | refine qv rfl (rr_lss rfl rfl (qT (by omega))) rfl rfl ?_ | refine qv rfl (rr_lss rfl rfl (qF (by omega))) rfl rfl ?_ | refine qv rfl (rr_eql rfl rfl (qT (by omega))) rfl rfl ?_ | refine qv rfl (rr_eql rfl rfl (qF (by omega))) rfl rfl ?_ | refine qv rfl (rr_neq rfl rfl (qT (by omega))) rfl rfl ?_ | refine qv rfl (rr_neq rfl rfl (qF (by omega))) rfl rfl ?_ | refine qv rfl (rr_add64 rfl rfl (by omega) (by omega) rfl) rfl rfl ?_ | refine qv rfl (rr_leq (b := false) rfl rfl (decide_eq_false (by omega))) rfl rfl ?_ | refine qv rfl (rr_leq rfl rfl (qT (by omega))) rfl rfl ?_ | refine qv rfl (rr_leq rfl rfl (qF (by omega))) rfl rfl ?_))
        refine E_pick [0] (by decide) rfl ?_
        exact E_round (k + 1) (by show k + 1 ≤ l.length; omega) (by show l.length - (k + 1) < l.length - k; omega) (by repeat' (first | exact True.intro | refine And.intro rfl ?_)) rfl
      · obtain rfl : k = l.length := by omega
        rw [List.take_of_length_le (Nat.le_refl _)]
        repeat (first
          | refine qv rfl (qp rfl) rfl rfl ?_ | refine TL_nil ?_ | refine T_seq ?_ | refine T_region ?_ | refine qcT rfl ?_ | refine qcF rfl ?_ | refine T_skip ?_
          | refine T_exit ?_ | refine T_ret ?_ | refine T_block ?_ | refine E_then ?_ | refine E_thenX ?_ | refine E_thenR ?_ | refine E_blockN ?_
          | refine E_blockR ?_ | refine E_blockX ?_ | refine E_blockO rfl ?_ | refine qs rfl rfl rfl rfl rfl rfl ?_
          | ((try refine qg rfl rfl rfl ?_); first | refine qv rfl (qp rfl) rfl rfl ?_ | refine qv rfl (rr_eql (b := true) rfl rfl (decide_eq_true (by omega))) rfl rfl ?_ | refine qv rfl (rr_strlen Und.eq rfl) rfl rfl ?_ | refine qv rfl (qlen Und.eq rfl) rfl rfl ?_ | refine qv rfl (qfld FldC.fld rfl rfl) rfl rfl ?_ | refine qv rfl (rr_lss rfl rfl (qT (by omega))) rfl rfl ?_ | refine qv rfl (rr_lss rfl rfl (qF (by omega))) rfl rfl ?_ | refine qv rfl (rr_eql rfl rfl (qT (by omega))) rfl rfl ?_ | refine qv rfl (rr_eql rfl rfl (qF (by omega))) rfl rfl ?_ | refine qv rfl (rr_neq rfl rfl (qT (by omega))) rfl rfl ?_ | refine qv rfl (rr_neq rfl rfl (qF (by omega))) rfl rfl ?_ | refine qv rfl (rr_add64 rfl rfl (by omega) (by omega) rfl) rfl rfl ?_ | refine qv rfl (rr_leq rfl rfl (qT (by omega))) rfl rfl ?_ | refine qv rfl (rr_leq rfl rfl (qF (by omega))) rfl rfl ?_))
        exact E_ret1e rfl rfl rfl
    · subst h1
      repeat (first
        | refine qv rfl (qp rfl) rfl rfl ?_ | refine TL_nil ?_ | refine T_seq ?_ | refine T_region ?_ | refine qcT rfl ?_ | refine qcF rfl ?_ | refine T_skip ?_
        | refine T_exit ?_ | refine T_ret ?_ | refine T_block ?_ | refine E_then ?_ | refine E_thenX ?_ | refine E_thenR ?_ | refine E_blockN ?_
        | refine E_blockR ?_ | refine E_blockX ?_ | refine E_blockO rfl ?_ | refine qs rfl rfl rfl rfl rfl rfl ?_
        | ((try refine qg rfl rfl rfl ?_); first | refine qv rfl (qp rfl) rfl rfl ?_ | refine qv rfl (rr_neq (b := true) rfl rfl (decide_eq_true (by decide))) rfl rfl ?_ | refine qv rfl (rr_neq (b := false) rfl rfl (decide_eq_false (by decide))) rfl rfl ?_ | refine qv rfl (rr_strlen Und.eq rfl) rfl rfl ?_ | refine qv rfl (qlen Und.eq rfl) rfl rfl ?_ | refine qv rfl (qfld FldC.fld rfl rfl) rfl rfl ?_ | refine qv rfl (rr_lss rfl rfl (qT (by omega))) rfl rfl ?_ | refine qv rfl (rr_lss rfl rfl (qF (by omega))) rfl rfl ?_ | refine qv rfl (rr_eql rfl rfl (qT (by omega))) rfl rfl ?_ | refine qv rfl (rr_eql rfl rfl (qF (by omega))) rfl rfl ?_ | refine qv rfl (rr_neq rfl rfl (qT (by omega))) rfl rfl ?_ | refine qv rfl (rr_neq rfl rfl (qF (by omega))) rfl rfl ?_ | refine qv rfl (rr_add64 rfl rfl (by omega) (by omega) rfl) rfl rfl ?_ | refine qv rfl (rr_leq rfl rfl (qT (by omega))) rfl rfl ?_ | refine qv rfl (rr_leq rfl rfl (qF (by omega))) rfl rfl ?_))
      refine T_pick [1] (by decide) rfl ?_
      refine T_loop (ι := Nat) (fun k => k ≤ l.length) (fun k => [(1, str s), (9, .int .i64 (a : Int)), (10, .int .i64 9), (11, .int .i64 (coverE (l.take k) 0 : Int)), (54, .slice am l.length cm), (55, .int .i64 l.length), (56, .int .i64 (k : Int))]) (fun k => [toksO (.slice am l.length cm) l]) (fun k => l.length - k) 0 (Nat.zero_le _) (by repeat' (first | exact True.intro | refine And.intro rfl ?_)) rfl ?_
      intro k hk
      by_cases c1 : k < l.length
      · obtain ⟨gm, rfl⟩ := ham (by omega)
        have hat := fun (W : Base) (L : List Own) (i : Nat) (hi : L[i]? = some (toksO (.slice (some ⟨gm, 0, none⟩) l.length cm) l)) => fun (j : Nat) (u : Value) (h : (tokC l[k])[j]? = some u) => at_rowel (W := W) tokC_len hi c1 j u h
        obtain ⟨v1, v2, v3⟩ := covers_at hcv c1
        generalize hx : l[k] = x at *
        clear hx
        obtain ⟨r, fr, tt⟩ := x
        dsimp only at v1 v2 v3
        subst v3
        repeat (first
          | refine qv rfl (qp rfl) rfl rfl ?_ | refine TL_nil ?_ | refine T_seq ?_ | refine T_region ?_ | refine qcT rfl ?_ | refine qcF rfl ?_ | refine T_skip ?_
          | refine T_exit ?_ | refine T_ret ?_ | refine T_block ?_ | refine E_then ?_ | refine E_thenX ?_ | refine E_thenR ?_ | refine E_blockN ?_
          | refine E_blockR ?_ | refine E_blockX ?_ | refine E_blockO rfl ?_ | refine qs rfl rfl rfl rfl rfl rfl ?_
          | ((try refine qg rfl rfl rfl ?_); first | refine qv rfl (qp rfl) rfl rfl ?_ | refine qv rfl (rr_idxc Und.eq TyC.ty rfl rfl c1) rfl rfl ?_ | refine qv rfl (rr_loadN TyC.ty rfl rfl (hat _ _ 0 rfl)) rfl rfl ?_ | refine qv rfl (rr_strlen Und.eq rfl) rfl rfl ?_ | refine qv rfl (qlen Und.eq rfl) rfl rfl ?_ | refine qv rfl (qfld FldC.fld rfl rfl) rfl rfl ?_ | refine qv rfl (rr_lss rfl rfl (qT (by omega))) rfl rfl ?_ | refine qv rfl (rr_lss rfl rfl (qF (by omega))) rfl rfl ?_ | refine qv rfl (rr_eql rfl rfl (qT (by omega))) rfl rfl ?_ | refine qv rfl (rr_eql rfl rfl (qF (by omega))) rfl rfl ?_ | refine qv rfl (rr_neq rfl rfl (qT (by omega))) rfl rfl ?_ | refine qv rfl (rr_neq rfl rfl (qF (by omega))) rfl rfl ?_ | refine qv rfl (rr_add64 rfl rfl (by omega) (by omega) rfl) rfl rfl ?_ | refine qv rfl (rr_leq rfl rfl (qT (by omega))) rfl rfl ?_ | refine qv rfl (rr_leq rfl rfl (qF (by omega))) rfl rfl ?_))
        refine TL_new rfl fun g13 => ?_
        conv => arg 8; simp only [zA, zB, zC, zD, zE, zF, zG, zH, zI, rowS, ret, id_eq]
        repeat (first
          | refine qv rfl (qp rfl) rfl rfl ?_ | refine TL_nil ?_ | refine T_seq ?_ | refine T_region ?_ | refine qcT rfl ?_ | refine qcF rfl ?_ | refine T_skip ?_
          | refine T_exit ?_ | refine T_ret ?_ | refine T_block ?_ | refine E_then ?_ | refine E_thenX ?_ | refine E_thenR ?_ | refine E_blockN ?_
          | refine E_blockR ?_ | refine E_blockX ?_ | refine E_blockO rfl ?_ | refine qs rfl rfl rfl rfl rfl rfl ?_
          | ((try refine qg rfl rfl rfl ?_); first | refine qv rfl (qp rfl) rfl rfl ?_ | refine qv rfl (rr_strlen Und.eq rfl) rfl rfl ?_ | refine qv rfl (qlen Und.eq rfl) rfl rfl ?_ | refine qv rfl (qfld FldC.fld rfl rfl) rfl rfl ?_ | refine qv rfl (rr_lss rfl rfl (qT (by omega))) rfl rfl ?_ | refine qv rfl (rr_lss rfl rfl (qF (by omega))) rfl rfl ?_ | refine qv rfl (rr_eql rfl rfl (qT (by omega))) rfl rfl ?_ | refine qv rfl (rr_eql rfl rfl (qF (by omega))) rfl rfl ?_ | refine qv rfl (rr_neq rfl rfl (qT (by omega))) rfl rfl ?_ | refine qv rfl (rr_neq rfl rfl (qF (by omega))) rfl rfl ?_ | refine qv rfl (rr_add64 rfl rfl (by omega) (by omega) rfl) rfl rfl ?_ | refine qv rfl (rr_leq rfl rfl (qT (by omega))) rfl rfl ?_ | refine qv rfl (rr_leq rfl rfl (qF (by omega))) rfl rfl ?_))
        refine TL_storeB (i := 1) (cs' := (tokC (r, fr, coverE (l.take (k + 1)) 0)).toArray) rfl rfl rfl rfl rfl rfl ?_
        conv => arg 8; simp only [zA, zB, zC, zD, zE, zF, zG, zH, zI, rowS, ret, id_eq]
        repeat (first
          | refine qv rfl (qp rfl) rfl rfl ?_ | refine TL_nil ?_ | refine T_seq ?_ | refine T_region ?_ | refine qcT rfl ?_ | refine qcF rfl ?_ | refine T_skip ?_
          | refine T_exit ?_ | refine T_ret ?_ | refine T_block ?_ | refine E_then ?_ | refine E_thenX ?_ | refine E_thenR ?_ | refine E_blockN ?_
          | refine E_blockR ?_ | refine E_blockX ?_ | refine E_blockO rfl ?_ | refine qs rfl rfl rfl rfl rfl rfl ?_
          | ((try refine qg rfl rfl rfl ?_); first | refine qv rfl (qp rfl) rfl rfl ?_ | refine qv rfl (rr_load1 (v := .int .i64 (fr : Int)) TyC.ty rfl (at_blk (i := 1) rfl rfl)) rfl rfl ?_ | refine qv rfl (rr_neq (b := false) rfl rfl (decide_eq_false (by omega))) rfl rfl ?_ | refine qv rfl (rr_load1 (v := .int .i64 (coverE (l.take (k + 1)) 0 : Int)) TyC.ty rfl (at_blk (i := 1) rfl rfl)) rfl rfl ?_ | refine qv rfl (rr_strlen Und.eq rfl) rfl rfl ?_ | refine qv rfl (qlen Und.eq rfl) rfl rfl ?_ | refine qv rfl (qfld FldC.fld rfl rfl) rfl rfl ?_ | refine qv rfl (rr_lss rfl rfl (qT (by omega))) rfl rfl ?_ | refine qv rfl (rr_lss rfl rfl (qF (by omega))) rfl rfl ?_ | refine qv rfl (rr_eql rfl rfl (qT (by omega))) rfl rfl ?_ | refine qv rfl (rr_eql rfl rfl (qF (by omega))) rfl rfl ?_ | refine qv rfl (rr_neq rfl rfl (qT (by omega))) rfl rfl ?_ | refine qv rfl (rr_neq rfl rfl (qF (by omega))) rfl rfl ?_ | refine qv rfl (rr_add64 rfl rfl (by omega) (by omega) rfl) rfl rfl ?_ | refine qv rfl (rr_leq (b := false) rfl rfl (decide_eq_false (by omega))) rfl rfl ?_ | refine qv rfl (rr_leq rfl rfl (qT (by omega))) rfl rfl ?_ | refine qv rfl (rr_leq rfl rfl (qF (by omega))) rfl rfl ?_))
        refine E_pick [0] (by decide) rfl ?_
        exact E_round (k + 1) (by show k + 1 ≤ l.length; omega) (by show l.length - (k + 1) < l.length - k; omega) (by repeat' (first | exact True.intro | refine And.intro rfl ?_)) rfl
      · obtain rfl : k = l.length := by omega
        rw [List.take_of_length_le (Nat.le_refl _)]
        repeat (first
          | refine qv rfl (qp rfl) rfl rfl ?_ | refine TL_nil ?_ | refine T_seq ?_ | refine T_region ?_ | refine qcT rfl ?_ | refine qcF rfl ?_ | refine T_skip ?_
          | refine T_exit ?_ | refine T_ret ?_ | refine T_block ?_ | refine E_then ?_ | refine E_thenX ?_ | refine E_thenR ?_ | refine E_blockN ?_
          | refine E_blockR ?_ | refine E_blockX ?_ | refine E_blockO rfl ?_ | refine qs rfl rfl rfl rfl rfl rfl ?_
          | ((try refine qg rfl rfl rfl ?_); first | refine qv rfl (qp rfl) rfl rfl ?_ | refine qv rfl (rr_eql (b := false) rfl rfl (decide_eq_false (by omega))) rfl rfl ?_ | refine qv rfl (rr_eql (b := true) rfl rfl (decide_eq_true (by omega))) rfl rfl ?_ | refine qv rfl (rr_lss (b := true) rfl rfl (decide_eq_true (by omega))) rfl rfl ?_ | refine qv rfl (rr_strlen Und.eq rfl) rfl rfl ?_ | refine qv rfl (qlen Und.eq rfl) rfl rfl ?_ | refine qv rfl (qfld FldC.fld rfl rfl) rfl rfl ?_ | refine qv rfl (rr_lss rfl rfl (qT (by omega))) rfl rfl ?_ | refine qv rfl (rr_lss rfl rfl (qF (by omega))) rfl rfl ?_ | refine qv rfl (rr_eql rfl rfl (qT (by omega))) rfl rfl ?_ | refine qv rfl (rr_eql rfl rfl (qF (by omega))) rfl rfl ?_ | refine qv rfl (rr_neq rfl rfl (qT (by omega))) rfl rfl ?_ | refine qv rfl (rr_neq rfl rfl (qF (by omega))) rfl rfl ?_ | refine qv rfl (rr_add64 rfl rfl (by omega) (by omega) rfl) rfl rfl ?_ | refine qv rfl (rr_leq rfl rfl (qT (by omega))) rfl rfl ?_ | refine qv rfl (rr_leq rfl rfl (qF (by omega))) rfl rfl ?_))
        exact E_ret1e rfl rfl rfl
end Go.Proofs.Yteejnamdpdfocaa.lexerCovers

