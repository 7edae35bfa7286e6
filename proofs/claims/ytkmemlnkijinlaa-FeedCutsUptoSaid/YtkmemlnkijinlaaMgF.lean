/- Part 6 of what FeedCutsUpto needs: FeedA, FeedB, FeedC, FeedV, FeedP, FeedN, DfM, Made, AbcL, RexMany, Abc, FeedD, FeedE, FeedQ, AppR, FedF, FedE, RestE. -/
import Derived.Test.YtkmemlnkijinlaaMgE
import Derived.WalkKit
import Derived.WalkSpells
import Derived.WalkLawsBesides
import Derived.Deep.RegionLaw
import Derived.Deep.AppendLies
import Derived.Deep.QuietTactic
import Derived.BigQuiet
import Derived.Deep.DeepCutAuto
import Derived.Lib.Hide
import Derived.Test.YtkmemlnkijinlaaRows
import Derived.ProofKit
import Derived.OpenShut
import Derived.ShutString
import Derived.SizedLaws
import Derived.JoinedCond
import Derived.Deep.CondSized
import Derived.Deep.Quiet
import Derived.StillTail
import Derived.Deep.LoopGhost
import Derived.Laws.BitsLemmas
import Derived.Laws.BytesString
import Derived.Test.YtkmemlnkijinlaaProg
import Derived.Laws.StructEq
import Derived.Laws.MakeOwn
import Derived.Laws.AppendOwn
import Derived.Maps.OwnSet
import Derived.DeepKeys4
import Derived.WideKeyEntry
import Derived.Laws.Entries
import Derived.Shelf.Sort.Plain
import Derived.Ground.Names2Prog
import Derived.Shelf.Slices.CompactI
import Derived.Shelf.Slices.In.SortNone
import Derived.Lib.RowBridge
import Derived.Laws.BitsAllLaws
import Derived.Lib.TrailingZeros
import Derived.Lib.SlicesCompact
import Derived.ChangeKeysEq
import Derived.Laws.Bits64b
/- FeedA -/
namespace Go.Proofs.Ytkmemlnkijinlaa.eng
open Go.RowKit kit mix smallL lexL
def heldC (a : Int) (u : List UInt8) (e : Int) : List Value := [.int .i64 a, str u, .int .i64 e]
/-- feed.check -/
def chkH (c : Int) (a : Int) (u : List UInt8) (e : Int) : Int := if c ≠ 0 then c else if a < 0 ∨ 1099511627776 < a ∨ 64 < u.length then 1 else if e ≠ 0 then 15 else 0
set_option maxHeartbeats 4000000 in
theorem feedCheck_calls (o : Of) (vn vt : Value) (N : List (List Int)) (tags : List Int) (a : Int) (u : List UInt8) (e : Int) (w : World) (h : PkI w vn vt N tags) (ho : ∀ b (h : b < 256), o[b] < 256) (hu : u.length ≤ 9223372036854775807) :
    Calls Try.prog 27 #[pkV o vn vt, .agg (heldC a u e).toArray] w (Meets (ret (.int .i64 (chkH (chkP o N tags) a u e))) w) := by
  have hck := fun w' (hg : Gr w w') => pkChk_calls o vn vt N tags w' (h.gr hg) ho
  obtain ⟨⟨an, cn, rfl, -⟩, at', ct, rfl, -⟩ := h
  generalize chkP o N tags = c at *
  unfold chkH
  refine enter (args := [pkV o (.slice an N.length cn) (.slice at' tags.length ct), .agg (heldC a u e).toArray]) (n := 30) Try.func27 rfl rfl rfl ?_
  refine T_seq (T_region (TL_box rfl rfl rfl fun g2 => TL_box rfl rfl rfl fun g3 => ?_))
  conv => arg 8; simp only [zA, zB, zC, zD, zE, zF, zG, zH, zI, rowS, ret, id_eq]
  repeat (first
    | refine qv rfl (qp rfl) rfl rfl ?_ | refine TL_nil ?_ | refine T_seq ?_ | refine T_region ?_ | refine qcT rfl ?_ | refine qcF rfl ?_ | refine T_skip ?_
    | refine T_ret ?_ | refine T_block ?_ | refine E_then ?_ | refine E_thenR ?_ | refine E_blockN ?_ | refine E_blockR ?_
    | refine qs rfl rfl rfl rfl rfl rfl ?_
    | ((try refine qg rfl rfl rfl ?_); first | refine qv rfl (qp rfl) rfl rfl ?_ | refine qv rfl (rr_loadB (i := 0) TyC.ty rfl rfl (pk_size _ _ _)) rfl rfl ?_ | refine qv rfl (qfld FldC.fld rfl rfl) rfl rfl ?_ | refine qv rfl (rr_lss rfl rfl (qT (by omega))) rfl rfl ?_ | refine qv rfl (rr_lss rfl rfl (qF (by omega))) rfl rfl ?_ | refine qv rfl (rr_neq rfl rfl (qT (by omega))) rfl rfl ?_ | refine qv rfl (rr_neq rfl rfl (qF (by omega))) rfl rfl ?_ | refine qv rfl (rr_strlen Und.eq rfl) rfl rfl ?_ | refine qv rfl (rr_gtr rfl rfl (qT (by omega))) rfl rfl ?_ | refine qv rfl (rr_gtr rfl rfl (qF (by omega))) rfl rfl ?_))
  refine TL_call (he1 EntersC.en rfl rfl) (fun w hm => hck _ hm.below) rfl rfl rfl ?_
  intro _ _
  conv => arg 8; simp only [zA, zB, zC, zD, zE, zF, zG, zH, zI, rowS, ret, id_eq]
  by_cases c1 : c = 0
  · rw [if_neg (by simpa using c1)]
    by_cases c2 : a < 0
    · rw [if_pos (.inl c2)]
      repeat (first
        | refine qv rfl (qp rfl) rfl rfl ?_ | refine TL_nil ?_ | refine T_seq ?_ | refine T_region ?_ | refine qcT rfl ?_ | refine qcF rfl ?_ | refine T_skip ?_
        | refine T_ret ?_ | refine T_block ?_ | refine E_then ?_ | refine E_thenR ?_ | refine E_blockN ?_ | refine E_blockR ?_
        | refine qs rfl rfl rfl rfl rfl rfl ?_
        | ((try refine qg rfl rfl rfl ?_); first | refine qv rfl (qp rfl) rfl rfl ?_ | refine qv rfl (rr_neq (b := false) rfl rfl (decide_eq_false (by simpa using c1))) rfl rfl ?_ | refine qv rfl (rr_load1 (v := .int .i64 a) TyC.ty rfl (at_blk (i := 1) rfl rfl)) rfl rfl ?_ | refine qv rfl (rr_lss (b := true) rfl rfl (decide_eq_true c2)) rfl rfl ?_ | refine qv rfl (qfld FldC.fld rfl rfl) rfl rfl ?_ | refine qv rfl (rr_lss rfl rfl (qT (by omega))) rfl rfl ?_ | refine qv rfl (rr_lss rfl rfl (qF (by omega))) rfl rfl ?_ | refine qv rfl (rr_neq rfl rfl (qT (by omega))) rfl rfl ?_ | refine qv rfl (rr_neq rfl rfl (qF (by omega))) rfl rfl ?_ | refine qv rfl (rr_strlen Und.eq rfl) rfl rfl ?_ | refine qv rfl (rr_gtr rfl rfl (qT (by omega))) rfl rfl ?_ | refine qv rfl (rr_gtr rfl rfl (qF (by omega))) rfl rfl ?_))
      exact E_ret1e rfl rfl rfl
    · by_cases c3 : 1099511627776 < a
      · rw [if_pos (.inr (.inl c3))]
        repeat (first
          | refine qv rfl (qp rfl) rfl rfl ?_ | refine TL_nil ?_ | refine T_seq ?_ | refine T_region ?_ | refine qcT rfl ?_ | refine qcF rfl ?_ | refine T_skip ?_
          | refine T_ret ?_ | refine T_block ?_ | refine E_then ?_ | refine E_thenR ?_ | refine E_blockN ?_ | refine E_blockR ?_
          | refine qs rfl rfl rfl rfl rfl rfl ?_
          | ((try refine qg rfl rfl rfl ?_); first | refine qv rfl (qp rfl) rfl rfl ?_ | refine qv rfl (rr_neq (b := false) rfl rfl (decide_eq_false (by simpa using c1))) rfl rfl ?_ | refine qv rfl (rr_load1 (v := .int .i64 a) TyC.ty rfl (at_blk (i := 1) rfl rfl)) rfl rfl ?_ | refine qv rfl (rr_lss (b := false) rfl rfl (decide_eq_false c2)) rfl rfl ?_ | refine qv rfl (qfld FldC.fld rfl rfl) rfl rfl ?_ | refine qv rfl (rr_lss rfl rfl (qT (by omega))) rfl rfl ?_ | refine qv rfl (rr_lss rfl rfl (qF (by omega))) rfl rfl ?_ | refine qv rfl (rr_neq rfl rfl (qT (by omega))) rfl rfl ?_ | refine qv rfl (rr_neq rfl rfl (qF (by omega))) rfl rfl ?_ | refine qv rfl (rr_gtr (b := true) rfl rfl (decide_eq_true c3)) rfl rfl ?_ | refine qv rfl (rr_strlen Und.eq rfl) rfl rfl ?_ | refine qv rfl (rr_gtr rfl rfl (qT (by omega))) rfl rfl ?_ | refine qv rfl (rr_gtr rfl rfl (qF (by omega))) rfl rfl ?_))
        exact E_ret1e rfl rfl rfl
      · by_cases c4 : 64 < u.length
        · rw [if_pos (.inr (.inr c4))]
          repeat (first
            | refine qv rfl (qp rfl) rfl rfl ?_ | refine TL_nil ?_ | refine T_seq ?_ | refine T_region ?_ | refine qcT rfl ?_ | refine qcF rfl ?_ | refine T_skip ?_
            | refine T_ret ?_ | refine T_block ?_ | refine E_then ?_ | refine E_thenR ?_ | refine E_blockN ?_ | refine E_blockR ?_
            | refine qs rfl rfl rfl rfl rfl rfl ?_
            | ((try refine qg rfl rfl rfl ?_); first | refine qv rfl (qp rfl) rfl rfl ?_ | refine qv rfl (rr_neq (b := false) rfl rfl (decide_eq_false (by simpa using c1))) rfl rfl ?_ | refine qv rfl (rr_load1 (v := .int .i64 a) TyC.ty rfl (at_blk (i := 1) rfl rfl)) rfl rfl ?_ | refine qv rfl (rr_load1 (v := str u) TyC.ty rfl (at_blk (i := 1) rfl rfl)) rfl rfl ?_ | refine qv rfl (rr_lss (b := false) rfl rfl (decide_eq_false c2)) rfl rfl ?_ | refine qv rfl (qfld FldC.fld rfl rfl) rfl rfl ?_ | refine qv rfl (rr_lss rfl rfl (qT (by omega))) rfl rfl ?_ | refine qv rfl (rr_lss rfl rfl (qF (by omega))) rfl rfl ?_ | refine qv rfl (rr_neq rfl rfl (qT (by omega))) rfl rfl ?_ | refine qv rfl (rr_neq rfl rfl (qF (by omega))) rfl rfl ?_ | refine qv rfl (rr_gtr (b := false) rfl rfl (decide_eq_false c3)) rfl rfl ?_ | refine qv rfl (rr_gtr (b := true) rfl rfl (decide_eq_true (by omega))) rfl rfl ?_ | refine qv rfl (rr_strlen Und.eq rfl) rfl rfl ?_ | refine qv rfl (rr_gtr rfl rfl (qT (by omega))) rfl rfl ?_ | refine qv rfl (rr_gtr rfl rfl (qF (by omega))) rfl rfl ?_))
          exact E_ret1e rfl rfl rfl
        · rw [if_neg (by omega)]
          by_cases c5 : e = 0
          · rw [if_neg (by simpa using c5)]
            repeat (first
              | refine qv rfl (qp rfl) rfl rfl ?_ | refine TL_nil ?_ | refine T_seq ?_ | refine T_region ?_ | refine qcT rfl ?_ | refine qcF rfl ?_ | refine T_skip ?_
              | refine T_ret ?_ | refine T_block ?_ | refine E_then ?_ | refine E_thenR ?_ | refine E_blockN ?_ | refine E_blockR ?_
              | refine qs rfl rfl rfl rfl rfl rfl ?_
              | ((try refine qg rfl rfl rfl ?_); first | refine qv rfl (qp rfl) rfl rfl ?_ | refine qv rfl (rr_neq (b := false) rfl rfl (decide_eq_false (by simpa using c1))) rfl rfl ?_ | refine qv rfl (rr_load1 (v := .int .i64 a) TyC.ty rfl (at_blk (i := 1) rfl rfl)) rfl rfl ?_ | refine qv rfl (rr_load1 (v := str u) TyC.ty rfl (at_blk (i := 1) rfl rfl)) rfl rfl ?_ | refine qv rfl (rr_load1 (v := .int .i64 e) TyC.ty rfl (at_blk (i := 1) rfl rfl)) rfl rfl ?_ | refine qv rfl (rr_lss (b := false) rfl rfl (decide_eq_false c2)) rfl rfl ?_ | refine qv rfl (rr_neq (b := false) rfl rfl (decide_eq_false (by simpa using c5))) rfl rfl ?_ | refine qv rfl (qfld FldC.fld rfl rfl) rfl rfl ?_ | refine qv rfl (rr_lss rfl rfl (qT (by omega))) rfl rfl ?_ | refine qv rfl (rr_lss rfl rfl (qF (by omega))) rfl rfl ?_ | refine qv rfl (rr_neq rfl rfl (qT (by omega))) rfl rfl ?_ | refine qv rfl (rr_neq rfl rfl (qF (by omega))) rfl rfl ?_ | refine qv rfl (rr_gtr (b := false) rfl rfl (decide_eq_false c3)) rfl rfl ?_ | refine qv rfl (rr_gtr (b := false) rfl rfl (decide_eq_false (by omega))) rfl rfl ?_ | refine qv rfl (rr_strlen Und.eq rfl) rfl rfl ?_ | refine qv rfl (rr_gtr rfl rfl (qT (by omega))) rfl rfl ?_ | refine qv rfl (rr_gtr rfl rfl (qF (by omega))) rfl rfl ?_))
            exact E_ret1e rfl rfl rfl
          · rw [if_pos c5]
            repeat (first
              | refine qv rfl (qp rfl) rfl rfl ?_ | refine TL_nil ?_ | refine T_seq ?_ | refine T_region ?_ | refine qcT rfl ?_ | refine qcF rfl ?_ | refine T_skip ?_
              | refine T_ret ?_ | refine T_block ?_ | refine E_then ?_ | refine E_thenR ?_ | refine E_blockN ?_ | refine E_blockR ?_
              | refine qs rfl rfl rfl rfl rfl rfl ?_
              | ((try refine qg rfl rfl rfl ?_); first | refine qv rfl (qp rfl) rfl rfl ?_ | refine qv rfl (rr_neq (b := false) rfl rfl (decide_eq_false (by simpa using c1))) rfl rfl ?_ | refine qv rfl (rr_load1 (v := .int .i64 a) TyC.ty rfl (at_blk (i := 1) rfl rfl)) rfl rfl ?_ | refine qv rfl (rr_load1 (v := str u) TyC.ty rfl (at_blk (i := 1) rfl rfl)) rfl rfl ?_ | refine qv rfl (rr_load1 (v := .int .i64 e) TyC.ty rfl (at_blk (i := 1) rfl rfl)) rfl rfl ?_ | refine qv rfl (rr_lss (b := false) rfl rfl (decide_eq_false c2)) rfl rfl ?_ | refine qv rfl (rr_neq (b := true) rfl rfl (decide_eq_true c5)) rfl rfl ?_ | refine qv rfl (qfld FldC.fld rfl rfl) rfl rfl ?_ | refine qv rfl (rr_lss rfl rfl (qT (by omega))) rfl rfl ?_ | refine qv rfl (rr_lss rfl rfl (qF (by omega))) rfl rfl ?_ | refine qv rfl (rr_neq rfl rfl (qT (by omega))) rfl rfl ?_ | refine qv rfl (rr_neq rfl rfl (qF (by omega))) rfl rfl ?_ | refine qv rfl (rr_gtr (b := false) rfl rfl (decide_eq_false c3)) rfl rfl ?_ | refine qv rfl (rr_gtr (b := false) rfl rfl (decide_eq_false (by omega))) rfl rfl ?_ | refine qv rfl (rr_strlen Und.eq rfl) rfl rfl ?_ | refine qv rfl (rr_gtr rfl rfl (qT (by omega))) rfl rfl ?_ | refine qv rfl (rr_gtr rfl rfl (qF (by omega))) rfl rfl ?_))
            exact E_ret1e rfl rfl rfl
  · rw [if_pos c1]
    repeat (first
      | refine qv rfl (qp rfl) rfl rfl ?_ | refine TL_nil ?_ | refine T_seq ?_ | refine T_region ?_ | refine qcT rfl ?_ | refine qcF rfl ?_ | refine T_skip ?_
      | refine T_ret ?_ | refine T_block ?_ | refine E_then ?_ | refine E_thenR ?_ | refine E_blockN ?_ | refine E_blockR ?_
      | refine qs rfl rfl rfl rfl rfl rfl ?_
      | ((try refine qg rfl rfl rfl ?_); first | refine qv rfl (qp rfl) rfl rfl ?_ | refine qv rfl (rr_neq (b := true) rfl rfl (decide_eq_true c1)) rfl rfl ?_ | refine qv rfl (qfld FldC.fld rfl rfl) rfl rfl ?_ | refine qv rfl (rr_lss rfl rfl (qT (by omega))) rfl rfl ?_ | refine qv rfl (rr_lss rfl rfl (qF (by omega))) rfl rfl ?_ | refine qv rfl (rr_neq rfl rfl (qT (by omega))) rfl rfl ?_ | refine qv rfl (rr_neq rfl rfl (qF (by omega))) rfl rfl ?_ | refine qv rfl (rr_strlen Und.eq rfl) rfl rfl ?_ | refine qv rfl (rr_gtr rfl rfl (qT (by omega))) rfl rfl ?_ | refine qv rfl (rr_gtr rfl rfl (qF (by omega))) rfl rfl ?_))
    exact E_ret1e rfl rfl rfl
theorem any_le {l : List Int} {k : Nat} (h : ∀ j (h : j < l.length), j < k → l[j] < 0) (hk : l.length ≤ k) : (l.any fun x => decide (0 ≤ x)) = false := by
  rw [List.any_eq_false]
  intro x hx
  obtain ⟨j, hj, rfl⟩ := List.mem_iff_getElem.1 hx
  have := h j hj (by omega)
  simp; omega
set_option maxHeartbeats 8000000 in
theorem look_calls (o : Of) (vn vt : Value) (N : List (List Int)) (tags : List Int) (s : List UInt8) (w : World) (h : PkI w vn vt N tags) (hg : PkGood o N tags) (hs : s.length ≤ 1000000) :
    Calls Try.prog 28 #[pkV o vn vt, str s] w (Meets (ret (.tuple #[.int .i64 (lookF o N tags s).1.1, .int .i64 ((lookF o N tags s).1.2 : Int), .bool (lookF o N tags s).2])) w) := by
  have hnx := fun {q} hq b => nxP_in hg (q := q) hq b
  have hpos := hg.pos
  have hlen := hg.len
  obtain ⟨⟨an, cn, rfl, hn1, hn2, hn3⟩, at', ct, rfl, ht1, ht2, ht3⟩ := h
  unfold maxLen at hn2 ht2
  obtain ⟨bn, offn, rfl, _, hnd⟩ := hn3 (by omega)
  obtain ⟨bt, offt, rfl, htd⟩ := ht3 (by omega)
  clear hn3 ht3 hg
  refine enter (args := [pkV o (.slice (some ⟨bn, offn, none⟩) N.length cn) (.slice (some ⟨bt, offt, none⟩) tags.length ct), str s]) (n := 66) Try.func28 rfl rfl rfl ?_
  refine T_seq (T_region (TL_box rfl rfl rfl fun g2 => ?_))
  conv => arg 8; simp only [zA, zB, zC, zD, zE, zF, zG, zH, zI, rowS, ret, id_eq]
  repeat (first
    | refine qv rfl (qp rfl) rfl rfl ?_ | refine TL_nil ?_ | refine T_seq ?_ | refine T_region ?_ | refine qcT rfl ?_ | refine qcF rfl ?_ | refine T_skip ?_
    | refine T_exit ?_ | refine T_ret ?_ | refine T_block ?_ | refine E_then ?_ | refine E_thenX ?_ | refine E_thenR ?_ | refine E_blockN ?_
    | refine E_blockR ?_ | refine E_blockX ?_ | refine E_blockO rfl ?_ | refine qv rfl (rr_strlen Und.eq rfl) rfl rfl ?_
    | refine qv rfl (qlen Und.eq rfl) rfl rfl ?_ | refine qv rfl (qfld FldC.fld rfl rfl) rfl rfl ?_
    | refine qv rfl (rr_lss rfl rfl (qT (by omega))) rfl rfl ?_ | refine qv rfl (rr_lss rfl rfl (qF (by omega))) rfl rfl ?_
    | refine qv rfl (rr_geq rfl rfl (qT (by omega))) rfl rfl ?_ | refine qv rfl (rr_geq rfl rfl (qF (by omega))) rfl rfl ?_
    | refine qv rfl (rr_add64 rfl rfl (by omega) (by omega) rfl) rfl rfl ?_)
  unfold lookF
  dsimp only
  generalize hfin : oneGo o N tags s 0 0 0 0 = fin
  generalize hsr : sureF o N 0 s = sr
  refine T_loop (ι := Nat × Nat × Int × Nat) (fun (i, now, r, t) => i ≤ s.length ∧ now < N.length ∧ t ≤ i ∧ (t = 0 → r = 0) ∧ oneGo o N tags (s.drop i) i (now : Int) r t = fin ∧ sureF o N (now : Int) (s.drop i) = sr) (fun (i, now, r, t) => [(1, str s), (2, .pointer (some ⟨g2, 0, none⟩)), (4, .int .i64 r), (5, .int .i64 (t : Int)), (7, .int .i64 (now : Int)), (12, .int .i64 s.length), (13, .int .i64 (i : Int))])
    (fun _ => [blkO g2 (pkC o (.slice (some ⟨bn, offn, none⟩) N.length cn) (.slice (some ⟨bt, offt, none⟩) tags.length ct)).toArray 26]) (fun (i, _, _, _) => s.length - i) (0, 0, 0, 0) ⟨Nat.zero_le _, hpos, Nat.zero_le _, fun _ => rfl, hfin, hsr⟩ (by repeat' (first | exact True.intro | refine And.intro rfl ?_)) rfl ?_
  rintro ⟨i, now, r, t⟩ ⟨i1, i2, i3, i6, i4, i5⟩
  dsimp only at i1 i2 i3 i4 i5 i6 ⊢
  clear hfin hsr
  by_cases c1 : i < s.length
  · have hne : decide (s ≠ []) = true := decide_eq_true (by rintro rfl; simp at c1)
    rw [List.drop_eq_getElem_cons c1, oneGo_cons] at i4
    rw [List.drop_eq_getElem_cons c1, sureF_cons] at i5
    obtain ⟨_, hw, hx0, hx1, hx2⟩ := hnx i2 s[i]
    have hb : s[(i : Int).toNat]? = some s[i] := by rw [Int.toNat_natCast]; exact List.getElem?_eq_getElem c1
    have hcell := of_toB (vn := .slice (some ⟨bn, offn, none⟩) N.length cn) (vt := .slice (some ⟨bt, offt, none⟩) tags.length ct) o s[i]
    have hb8 := s[i].toNat_lt
    obtain ⟨u, ⟨au, cu, rfl, hcu, hmu, hru⟩, hdu⟩ := fol_at hnd i2
    have hatN := fun (L : List Own) => at_rd (L := L) hdu (j := 0) (v := .slice au N[now].length cu) rfl
    obtain ⟨bu, offu, rfl, hrd⟩ := hru (by omega)
    have hatU := fun (L : List Own) => at_el (L := L) SmIn_len hrd hw 0 _ rfl
    have hatU' : ∀ (L : List Own), At (w : Base) L ⟨bu, offu + o[s[i].toNat] * 1 + 0, none⟩ (.int .i64 (nxP o N (now : Int) s[i])) := fun L => by rw [hx0]; exact hatU L
    clear hdu hrd hru hatU hx0 hnd
    generalize s[i] = b at *
    generalize o[b.toNat] = ob at *
    generalize nxP o N (now : Int) b = x at *
    generalize N[now].length = wd at *
    repeat (first
      | refine qv rfl (qp rfl) rfl rfl ?_ | refine TL_nil ?_ | refine T_seq ?_ | refine T_region ?_ | refine qcT rfl ?_ | refine qcF rfl ?_ | refine T_skip ?_
      | refine T_exit ?_ | refine T_ret ?_ | refine T_block ?_ | refine E_then ?_ | refine E_thenX ?_ | refine E_thenR ?_ | refine E_blockN ?_
      | refine E_blockR ?_ | refine E_blockX ?_ | refine E_blockO rfl ?_ | refine qv rfl (rr_strlen Und.eq rfl) rfl rfl ?_
      | refine qv rfl (qlen Und.eq rfl) rfl rfl ?_ | refine qv rfl (qfld FldC.fld rfl rfl) rfl rfl ?_
      | refine qv rfl (rr_lss rfl rfl (qT (by omega))) rfl rfl ?_ | refine qv rfl (rr_lss rfl rfl (qF (by omega))) rfl rfl ?_
      | refine qv rfl (rr_geq rfl rfl (qT (by omega))) rfl rfl ?_ | refine qv rfl (rr_geq rfl rfl (qF (by omega))) rfl rfl ?_
      | refine qv rfl (rr_add64 rfl rfl (by omega) (by omega) rfl) rfl rfl ?_)
    refine T_ord ([blkO g2 (pkC o (.slice (some ⟨bn, offn, none⟩) N.length cn) (.slice (some ⟨bt, offt, none⟩) tags.length ct)).toArray 26]) (.calm 0 (.calm 1 (.calm 2 (.calm 3 (.calm 4 (.calm 5 (.calm 6 (.calm 7 (.calm 8 (.calm 9 (.calm 10 (.calm 11 (.calm 12 (.calm 13 (.done))))))))))))))) (fun _ h => h) (by kernel_rfl) (by kernel_rfl) (by intro c a d v w h; cases d <;> exact h) ?_
    repeat (first
      | ((first | refine TW_plain rfl rfl ?_ | refine TW_gmet rfl rfl rfl rfl ?_); first | refine TN_val (qp rfl) rfl rfl ?_ | refine TN_val (rr_load1 TyC.ty rfl (at_blk (i := 0) rfl (pk_next _ _ _))) rfl rfl ?_ | refine TN_val (rr_idxc (j := now) Und.eq TyC.ty rfl rfl i2) rfl rfl ?_ | refine TN_val (rr_load1 TyC.ty rfl (hatN _)) rfl rfl ?_ | refine TN_val (rr_stridx Und.eq rfl rfl (by omega) hb) rfl rfl ?_ | refine TN_val (rr_aidx1 Und.eq TyC.ty rfl rfl hb8) rfl rfl ?_ | refine TN_val (rr_load1 TyC.ty rfl (at_blk (i := 0) rfl hcell)) rfl rfl ?_ | refine TN_val (rr_idxc (j := ob) Und.eq TyC.ty rfl rfl hw) rfl rfl ?_ | refine TN_val (rr_load1 TyC.ty rfl (hatU' _)) rfl rfl ?_ | refine TN_val (rr_strlen Und.eq rfl) rfl rfl ?_ | refine TN_val (qlen Und.eq rfl) rfl rfl ?_ | refine TN_val (qfld FldC.fld rfl rfl) rfl rfl ?_ | refine TN_val (rr_lss rfl rfl (qT (by omega))) rfl rfl ?_ | refine TN_val (rr_lss rfl rfl (qF (by omega))) rfl rfl ?_ | refine TN_val (rr_geq rfl rfl (qT (by omega))) rfl rfl ?_ | refine TN_val (rr_geq rfl rfl (qF (by omega))) rfl rfl ?_ | refine TN_val (rr_add64 rfl rfl (by omega) (by omega) rfl) rfl rfl ?_)
      | refine TW_done ?_)
    by_cases q1 : x < 0
    · rw [if_pos q1] at i4 i5
      subst i4 i5
      rw [hne, Bool.true_and]
      repeat (first
        | refine qv rfl (qp rfl) rfl rfl ?_ | refine TL_nil ?_ | refine T_seq ?_ | refine T_region ?_ | refine qcT rfl ?_ | refine qcF rfl ?_ | refine T_skip ?_
        | refine T_exit ?_ | refine T_ret ?_ | refine T_block ?_ | refine E_then ?_ | refine E_thenX ?_ | refine E_thenR ?_ | refine E_blockN ?_
        | refine E_blockR ?_ | refine E_blockX ?_ | refine E_blockO rfl ?_ | refine qv rfl (rr_lss (b := true) rfl rfl (decide_eq_true q1)) rfl rfl ?_
        | refine qv rfl (rr_strlen Und.eq rfl) rfl rfl ?_ | refine qv rfl (qlen Und.eq rfl) rfl rfl ?_ | refine qv rfl (qfld FldC.fld rfl rfl) rfl rfl ?_
        | refine qv rfl (rr_lss rfl rfl (qT (by omega))) rfl rfl ?_ | refine qv rfl (rr_lss rfl rfl (qF (by omega))) rfl rfl ?_
        | refine qv rfl (rr_geq rfl rfl (qT (by omega))) rfl rfl ?_ | refine qv rfl (rr_geq rfl rfl (qF (by omega))) rfl rfl ?_
        | refine qv rfl (rr_add64 rfl rfl (by omega) (by omega) rfl) rfl rfl ?_)
      exact E_ret3 rfl rfl rfl rfl fun w hm => hm.ret
    · rw [if_neg q1] at i4 i5
      obtain ⟨xn, rfl⟩ := Int.eq_ofNat_of_zero_le (show 0 ≤ x by omega)
      have hxt : xn < tags.length := by omega
      have hatT := fun (L : List Own) => at_el (L := L) SmIn_len htd hxt 0 _ rfl
      rw [Int.toNat_natCast, List.getD_eq_getElem?_getD (l := tags), List.getElem?_eq_getElem hxt, Option.getD_some] at i4
      generalize tags[xn] = tg at *
      have hatT' : ∀ (L : List Own), At (w : Base) L ⟨bt, offt + xn * 1 + 0, none⟩ (.int .i64 tg) := hatT
      by_cases q2 : 0 ≤ tg
      · rw [if_pos q2] at i4
        repeat (first
          | refine qv rfl (qp rfl) rfl rfl ?_ | refine TL_nil ?_ | refine T_seq ?_ | refine T_region ?_ | refine qcT rfl ?_ | refine qcF rfl ?_ | refine T_skip ?_
          | refine T_exit ?_ | refine T_ret ?_ | refine T_block ?_ | refine E_then ?_ | refine E_thenX ?_ | refine E_thenR ?_ | refine E_blockN ?_
          | refine E_blockR ?_ | refine E_blockX ?_ | refine E_blockO rfl ?_ | refine qv rfl (rr_lss (b := false) rfl rfl (decide_eq_false q1)) rfl rfl ?_
          | refine qv rfl (rr_load1 TyC.ty rfl (at_blk (i := 0) rfl (pk_tags _ _ _))) rfl rfl ?_
          | refine qv rfl (rr_idxc (j := xn) Und.eq TyC.ty rfl rfl hxt) rfl rfl ?_ | refine qv rfl (rr_load1 (v := .int .i64 tg) TyC.ty rfl (hatT' _)) rfl rfl ?_
          | refine qv rfl (rr_geq (b := true) rfl rfl (decide_eq_true q2)) rfl rfl ?_
          | refine qv rfl (rr_add64 (r := ((i + 1 : Nat) : Int)) rfl rfl (by omega) (by omega) (by omega)) rfl rfl ?_
          | refine qv rfl (rr_strlen Und.eq rfl) rfl rfl ?_ | refine qv rfl (qlen Und.eq rfl) rfl rfl ?_ | refine qv rfl (qfld FldC.fld rfl rfl) rfl rfl ?_
          | refine qv rfl (rr_lss rfl rfl (qT (by omega))) rfl rfl ?_ | refine qv rfl (rr_lss rfl rfl (qF (by omega))) rfl rfl ?_
          | refine qv rfl (rr_geq rfl rfl (qT (by omega))) rfl rfl ?_ | refine qv rfl (rr_geq rfl rfl (qF (by omega))) rfl rfl ?_
          | refine qv rfl (rr_add64 rfl rfl (by omega) (by omega) rfl) rfl rfl ?_)
        exact E_round (i + 1, xn, tg, i + 1) ⟨by show i + 1 ≤ s.length; omega, by show xn < N.length; omega, Nat.le_refl _, fun h => absurd h (Nat.succ_ne_zero i), i4, i5⟩ (by show s.length - (i + 1) < s.length - i; omega) (by repeat' (first | exact True.intro | refine And.intro rfl ?_)) rfl
      · rw [if_neg q2] at i4
        repeat (first
          | refine qv rfl (qp rfl) rfl rfl ?_ | refine TL_nil ?_ | refine T_seq ?_ | refine T_region ?_ | refine qcT rfl ?_ | refine qcF rfl ?_ | refine T_skip ?_
          | refine T_exit ?_ | refine T_ret ?_ | refine T_block ?_ | refine E_then ?_ | refine E_thenX ?_ | refine E_thenR ?_ | refine E_blockN ?_
          | refine E_blockR ?_ | refine E_blockX ?_ | refine E_blockO rfl ?_ | refine qv rfl (rr_lss (b := false) rfl rfl (decide_eq_false q1)) rfl rfl ?_
          | refine qv rfl (rr_load1 TyC.ty rfl (at_blk (i := 0) rfl (pk_tags _ _ _))) rfl rfl ?_
          | refine qv rfl (rr_idxc (j := xn) Und.eq TyC.ty rfl rfl hxt) rfl rfl ?_ | refine qv rfl (rr_load1 (v := .int .i64 tg) TyC.ty rfl (hatT' _)) rfl rfl ?_
          | refine qv rfl (rr_geq (b := false) rfl rfl (decide_eq_false q2)) rfl rfl ?_
          | refine qv rfl (rr_add64 (r := ((i + 1 : Nat) : Int)) rfl rfl (by omega) (by omega) (by omega)) rfl rfl ?_
          | refine qv rfl (rr_strlen Und.eq rfl) rfl rfl ?_ | refine qv rfl (qlen Und.eq rfl) rfl rfl ?_ | refine qv rfl (qfld FldC.fld rfl rfl) rfl rfl ?_
          | refine qv rfl (rr_lss rfl rfl (qT (by omega))) rfl rfl ?_ | refine qv rfl (rr_lss rfl rfl (qF (by omega))) rfl rfl ?_
          | refine qv rfl (rr_geq rfl rfl (qT (by omega))) rfl rfl ?_ | refine qv rfl (rr_geq rfl rfl (qF (by omega))) rfl rfl ?_
          | refine qv rfl (rr_add64 rfl rfl (by omega) (by omega) rfl) rfl rfl ?_)
        exact E_round (i + 1, xn, r, t) ⟨by show i + 1 ≤ s.length; omega, by show xn < N.length; omega, by show t ≤ i + 1; omega, i6, i4, i5⟩ (by show s.length - (i + 1) < s.length - i; omega) (by repeat' (first | exact True.intro | refine And.intro rfl ?_)) rfl
  · rw [List.drop_eq_nil_of_le (by omega)] at i4 i5
    have i4 : (r, t) = fin := i4
    subst i4
    by_cases e1 : s = []
    · have hne : decide (s ≠ []) = false := decide_eq_false (by simpa using e1)
      rw [hne, Bool.false_and]
      subst e1
      obtain rfl : i = 0 := by simp at i1; exact i1
      obtain rfl : t = 0 := by omega
      obtain rfl := i6 rfl
      repeat (first
        | refine qv rfl (qp rfl) rfl rfl ?_ | refine TL_nil ?_ | refine T_seq ?_ | refine T_region ?_ | refine qcT rfl ?_ | refine qcF rfl ?_ | refine T_skip ?_
        | refine T_exit ?_ | refine T_ret ?_ | refine T_block ?_ | refine E_then ?_ | refine E_thenX ?_ | refine E_thenR ?_ | refine E_blockN ?_
        | refine E_blockR ?_ | refine E_blockX ?_ | refine E_blockO rfl ?_ | refine qv rfl (rr_streq (b := true) rfl rfl (decide_eq_true rfl)) rfl rfl ?_
        | refine qv rfl (rr_strlen Und.eq rfl) rfl rfl ?_ | refine qv rfl (qlen Und.eq rfl) rfl rfl ?_ | refine qv rfl (qfld FldC.fld rfl rfl) rfl rfl ?_
        | refine qv rfl (rr_lss rfl rfl (qT (by omega))) rfl rfl ?_ | refine qv rfl (rr_lss rfl rfl (qF (by omega))) rfl rfl ?_
        | refine qv rfl (rr_geq rfl rfl (qT (by omega))) rfl rfl ?_ | refine qv rfl (rr_geq rfl rfl (qF (by omega))) rfl rfl ?_
        | refine qv rfl (rr_add64 rfl rfl (by omega) (by omega) rfl) rfl rfl ?_)
      exact E_ret3 rfl rfl rfl rfl fun w hm => hm.ret
    · have hne : decide (s ≠ []) = true := decide_eq_true e1
      rw [hne, Bool.true_and]
      have i5 : (!((N.getD ((now : Int).toNat) []).any fun x => decide (0 ≤ x))) = sr := i5
      obtain ⟨u, ⟨au, cu, rfl, hcu, hmu, hru⟩, hdu⟩ := fol_at hnd i2
      have hatN := fun (L : List Own) => at_rd (L := L) hdu (j := 0) (v := .slice au N[now].length cu) rfl
      rw [Int.toNat_natCast, List.getD_eq_getElem?_getD, List.getElem?_eq_getElem i2, Option.getD_some] at i5
      clear hdu hnx hnd i4
      generalize N[now] = row at *
      unfold maxLen at hmu
      repeat (first
        | refine qv rfl (qp rfl) rfl rfl ?_ | refine TL_nil ?_ | refine T_seq ?_ | refine T_region ?_ | refine qcT rfl ?_ | refine qcF rfl ?_ | refine T_skip ?_
        | refine T_exit ?_ | refine T_ret ?_ | refine T_block ?_ | refine E_then ?_ | refine E_thenX ?_ | refine E_thenR ?_ | refine E_blockN ?_
        | refine E_blockR ?_ | refine E_blockX ?_ | refine E_blockO rfl ?_ | refine qv rfl (rr_streq (b := false) rfl rfl (decide_eq_false e1)) rfl rfl ?_
        | refine qv rfl (rr_load1 TyC.ty rfl (at_blk (i := 0) rfl (pk_next _ _ _))) rfl rfl ?_
        | refine qv rfl (rr_idxc (j := now) Und.eq TyC.ty rfl rfl i2) rfl rfl ?_ | refine qv rfl (rr_load1 TyC.ty rfl (hatN _)) rfl rfl ?_
        | refine qv rfl (rr_strlen Und.eq rfl) rfl rfl ?_ | refine qv rfl (qlen Und.eq rfl) rfl rfl ?_ | refine qv rfl (qfld FldC.fld rfl rfl) rfl rfl ?_
        | refine qv rfl (rr_lss rfl rfl (qT (by omega))) rfl rfl ?_ | refine qv rfl (rr_lss rfl rfl (qF (by omega))) rfl rfl ?_
        | refine qv rfl (rr_geq rfl rfl (qT (by omega))) rfl rfl ?_ | refine qv rfl (rr_geq rfl rfl (qF (by omega))) rfl rfl ?_
        | refine qv rfl (rr_add64 rfl rfl (by omega) (by omega) rfl) rfl rfl ?_)
      clear hatN
      refine T_pick [] (by decide) rfl ?_
      refine T_loop (ι := Nat) (fun k => k ≤ row.length ∧ ∀ j (h : j < row.length), j < k → row[j] < 0) (fun k => [(4, .int .i64 r), (5, .int .i64 (t : Int)), (53, .slice au row.length cu), (54, .int .i64 row.length), (55, .int .i64 (k : Int))]) (fun _ => []) (fun k => row.length - k) 0 ⟨Nat.zero_le _, fun j _ h => absurd h (Nat.not_lt_zero _)⟩ (by repeat' (first | exact True.intro | refine And.intro rfl ?_)) rfl ?_
      rintro k ⟨k1, k2⟩
      by_cases c2 : k < row.length
      · obtain ⟨bu, offu, rfl, hrd⟩ := hru (by omega)
        have hatU := fun (L : List Own) => at_el (L := L) SmIn_len hrd c2 0 _ rfl
        have hk2 : ∀ (h : row[k] < 0), ∀ j (h : j < row.length), j < k + 1 → row[j] < 0 := fun h j hj hjk => by
          by_cases e : j = k
          · subst e; exact h
          · exact k2 j hj (by omega)
        by_cases c3 : 0 ≤ row[k]
        · have hany : (row.any fun x => decide (0 ≤ x)) = true := List.any_eq_true.2 ⟨row[k], List.getElem_mem c2, decide_eq_true c3⟩
          rw [hany] at i5
          subst i5
          clear hk2 hany
          generalize row[k] = x at *
          repeat (first
            | refine qv rfl (qp rfl) rfl rfl ?_ | refine TL_nil ?_ | refine T_seq ?_ | refine T_region ?_ | refine qcT rfl ?_ | refine qcF rfl ?_ | refine T_skip ?_
            | refine T_exit ?_ | refine T_ret ?_ | refine T_block ?_ | refine E_then ?_ | refine E_thenX ?_ | refine E_thenR ?_ | refine E_blockN ?_
            | refine E_blockR ?_ | refine E_blockX ?_ | refine E_blockO rfl ?_ | refine qv rfl (rr_idxc Und.eq TyC.ty rfl rfl c2) rfl rfl ?_
            | refine qv rfl (rr_load1 (v := .int .i64 x) TyC.ty rfl (hatU _)) rfl rfl ?_ | refine qv rfl (rr_geq (b := true) rfl rfl (decide_eq_true c3)) rfl rfl ?_
            | refine qv rfl (rr_strlen Und.eq rfl) rfl rfl ?_ | refine qv rfl (qlen Und.eq rfl) rfl rfl ?_ | refine qv rfl (qfld FldC.fld rfl rfl) rfl rfl ?_
            | refine qv rfl (rr_lss rfl rfl (qT (by omega))) rfl rfl ?_ | refine qv rfl (rr_lss rfl rfl (qF (by omega))) rfl rfl ?_
            | refine qv rfl (rr_geq rfl rfl (qT (by omega))) rfl rfl ?_ | refine qv rfl (rr_geq rfl rfl (qF (by omega))) rfl rfl ?_
            | refine qv rfl (rr_add64 rfl rfl (by omega) (by omega) rfl) rfl rfl ?_)
          exact E_ret3 rfl rfl rfl rfl fun w hm => hm.ret
        · have hk3 := hk2 (by omega)
          clear hk2
          have hatU' : ∀ (L : List Own), At (w : Base) L ⟨bu, offu + k * 1 + 0, none⟩ (.int .i64 row[k]) := hatU
          clear hatU
          generalize hx : row[k] = x at *
          repeat (first
            | refine qv rfl (qp rfl) rfl rfl ?_ | refine TL_nil ?_ | refine T_seq ?_ | refine T_region ?_ | refine qcT rfl ?_ | refine qcF rfl ?_ | refine T_skip ?_
            | refine T_exit ?_ | refine T_ret ?_ | refine T_block ?_ | refine E_then ?_ | refine E_thenX ?_ | refine E_thenR ?_ | refine E_blockN ?_
            | refine E_blockR ?_ | refine E_blockX ?_ | refine E_blockO rfl ?_ | refine qv rfl (rr_idxc Und.eq TyC.ty rfl rfl c2) rfl rfl ?_
            | refine qv rfl (rr_load1 (v := .int .i64 x) TyC.ty rfl (hatU' _)) rfl rfl ?_
            | refine qv rfl (rr_geq (b := false) rfl rfl (decide_eq_false c3)) rfl rfl ?_ | refine qv rfl (rr_strlen Und.eq rfl) rfl rfl ?_
            | refine qv rfl (qlen Und.eq rfl) rfl rfl ?_ | refine qv rfl (qfld FldC.fld rfl rfl) rfl rfl ?_
            | refine qv rfl (rr_lss rfl rfl (qT (by omega))) rfl rfl ?_ | refine qv rfl (rr_lss rfl rfl (qF (by omega))) rfl rfl ?_
            | refine qv rfl (rr_geq rfl rfl (qT (by omega))) rfl rfl ?_ | refine qv rfl (rr_geq rfl rfl (qF (by omega))) rfl rfl ?_
            | refine qv rfl (rr_add64 rfl rfl (by omega) (by omega) rfl) rfl rfl ?_)
          exact E_round (k + 1) ⟨by omega, hk3⟩ (by show row.length - (k + 1) < row.length - k; omega) (by repeat' (first | exact True.intro | refine And.intro rfl ?_)) rfl
      · rw [any_le k2 (by omega)] at i5
        subst i5
        repeat (first
          | refine qv rfl (qp rfl) rfl rfl ?_ | refine TL_nil ?_ | refine T_seq ?_ | refine T_region ?_ | refine qcT rfl ?_ | refine qcF rfl ?_ | refine T_skip ?_
          | refine T_exit ?_ | refine T_ret ?_ | refine T_block ?_ | refine E_then ?_ | refine E_thenX ?_ | refine E_thenR ?_ | refine E_blockN ?_
          | refine E_blockR ?_ | refine E_blockX ?_ | refine E_blockO rfl ?_ | refine qv rfl (rr_strlen Und.eq rfl) rfl rfl ?_
          | refine qv rfl (qlen Und.eq rfl) rfl rfl ?_ | refine qv rfl (qfld FldC.fld rfl rfl) rfl rfl ?_
          | refine qv rfl (rr_lss rfl rfl (qT (by omega))) rfl rfl ?_ | refine qv rfl (rr_lss rfl rfl (qF (by omega))) rfl rfl ?_
          | refine qv rfl (rr_geq rfl rfl (qT (by omega))) rfl rfl ?_ | refine qv rfl (rr_geq rfl rfl (qF (by omega))) rfl rfl ?_
          | refine qv rfl (rr_add64 rfl rfl (by omega) (by omega) rfl) rfl rfl ?_)
        exact E_ret3 rfl rfl rfl rfl fun w hm => hm.ret
end Go.Proofs.Ytkmemlnkijinlaa.eng

/- FeedB -/
namespace Go.Proofs.Ytkmemlnkijinlaa.eng
open Go.RowKit kit mix smallL lexL
section
variable {P : Program} {n : Nat} {W : Base} {fr : Fr} {L : List Own}
/-- two results that lie in memory -/
theorem E_retcc {fn : Func} {R : Ending → World → Prop} {t u : Tmp} {T U : TypeId} {i j g g' c c' : Nat} {cs cs' : Array Value} {T' U' : TypeId} [hT : TyC P T true c] [hU : TyC P U true c'] (hres : fn.results = #[.cell t T, .cell u U]) (hp : look fr t = some (.pointer (some ⟨g, 0, none⟩))) (hi : L[i]? = some (blkO g cs T')) (hc : cs.size = c)
    (hq : look fr u = some (.pointer (some ⟨g', 0, none⟩))) (hj : L[j]? = some (blkO g' cs' U')) (hc' : cs'.size = c')
    (h : ∀ w, Mem W L w → R (.returned (.tuple #[.agg cs, .agg cs'])) w) : E n W .ret (bodyPost P fn R) fr L :=
  E_ret fun a w hr hmm => ⟨_, by
    have hload := run_loadCells_list (P := P) w ⟨g, 0, none⟩ cs.toList fun j v hj => by rw [addr_add, Nat.zero_add]; exact at_blk hi (by simpa using hj) w hmm
    have hl : (loadCells ⟨g, 0, none⟩ c).run P w = .ok cs w := by rw [← hc]; simpa using hload
    have hv : (loadVar T ⟨g, 0, none⟩).run P w = .ok (.agg cs) w := by simp [loadVar, hT.ty.agg, hT.ty.size, hl]
    have hload' := run_loadCells_list (P := P) w ⟨g', 0, none⟩ cs'.toList fun j v hj' => by rw [addr_add, Nat.zero_add]; exact at_blk hj (by simpa using hj') w hmm
    have hl' : (loadCells ⟨g', 0, none⟩ c').run P w = .ok cs' w := by rw [← hc']; simpa using hload'
    have hv' : (loadVar U ⟨g', 0, none⟩).run P w = .ok (.agg cs') w := by simp [loadVar, hU.ty.agg, hU.ty.size, hl']
    simp [results, hres, Array.getD_eq_getD_getElem?, hr.get t _ hp, hr.get u _ hq, asAddr, hv, hv'], h w hmm⟩
end
theorem build_held2 (a : Int) (u : List UInt8) (w : World) : (Instr.build 30 #[(0, .int .i64 a), (1, str u)]).run Try.prog w = .ok (.agg (heldC a u 0).toArray) w := by
  unfold heldC str; go_simp
theorem build_heldE (a e : Int) (w : World) : (Instr.build 30 #[(0, .int .i64 a), (2, .int .i64 e)]).run Try.prog w = .ok (.agg (heldC a [] e).toArray) w := by
  unfold heldC str; go_simp
theorem build_tok3 (r a b : Int) (w : World) : (Instr.build 36 #[(0, .int .i64 r), (1, .int .i64 a), (2, .int .i64 b)]).run Try.prog w = .ok (.agg #[.int .i64 r, .int .i64 a, .int .i64 b]) w := by
  go_simp
set_option maxHeartbeats 4000000 in
theorem cut_calls (a : Nat) (u : List UInt8) (e r : Int) (t : Nat) (w : World) (ha : a ≤ 9223372036854775) (ht : t ≤ u.length) (hu : u.length ≤ 1000000) :
    Calls Try.prog 29 #[.agg (heldC a u e).toArray, .int .i64 r, .int .i64 (t : Int)] w (Meets (ret (.tuple #[.agg (heldC ((a + t : Nat) : Int) (u.drop t) 0).toArray, .agg (tokC (r, a, a + t)).toArray])) w) := by
  have hb := build_tok3 r a ((a + t : Nat) : Int)
  have hb2 := build_held2 ((a + t : Nat) : Int) (u.drop t)
  refine enter (args := [.agg (heldC a u e).toArray, .int .i64 r, .int .i64 (t : Int)]) (n := 25) Try.func29 rfl rfl rfl ?_
  refine T_seq (T_region (TL_box rfl rfl rfl fun g3 => TL_new rfl fun g6 => TL_new rfl fun g7 => ?_))
  conv => arg 8; simp only [zA, zB, zC, zD, zE, zF, zG, zH, zI, rowS, ret, id_eq]
  repeat (first
    | refine qv rfl (qp rfl) rfl rfl ?_ | refine TL_nil ?_ | refine T_seq ?_ | refine T_region ?_ | refine T_ret ?_ | refine E_then ?_ | refine E_thenR ?_
    | refine qv rfl (rr_load1 (v := .int .i64 (a : Int)) TyC.ty rfl (at_blk (i := 0) rfl rfl)) rfl rfl ?_
    | refine qv rfl (rr_add64 (r := ((a + t : Nat) : Int)) rfl rfl (by omega) (by omega) (by omega)) rfl rfl ?_ | refine qv rfl (rr_build rfl hb) rfl rfl ?_
    | refine qv rfl (qfld FldC.fld rfl rfl) rfl rfl ?_ | refine qv rfl (rr_add64 rfl rfl (by omega) (by omega) rfl) rfl rfl ?_)
  refine TL_new rfl fun g8 => ?_
  conv => arg 8; simp only [zA, zB, zC, zD, zE, zF, zG, zH, zI, rowS, ret, id_eq]
  refine TL_storeB (i := 3) (cs' := (tokC (r, a, a + t)).toArray) rfl rfl rfl rfl rfl rfl ?_
  conv => arg 8; simp only [zA, zB, zC, zD, zE, zF, zG, zH, zI, rowS, ret, id_eq]
  repeat (first
    | refine qv rfl (qp rfl) rfl rfl ?_ | refine TL_nil ?_ | refine T_seq ?_ | refine T_region ?_ | refine T_ret ?_ | refine E_then ?_ | refine E_thenR ?_
    | refine qv rfl (qfld FldC.fld rfl rfl) rfl rfl ?_ | refine qv rfl (rr_add64 rfl rfl (by omega) (by omega) rfl) rfl rfl ?_)
  refine T_ord ([blkO g3 (heldC a u e).toArray 30, blkO g8 (tokC (r, a, a + t)).toArray 36]) (.calm 0 (.calm 1 (.calm 2 (.calm 3 (.calm 4 (.calm 5 (.calm 6 (.calm 7 (.one 8 (.one 9 (.done))))))))))) (sub_pick [0, 3] (by decide) rfl) (by kernel_rfl) (by kernel_rfl) (by intro c a d v w h; cases d <;> exact h) ?_
  repeat (first
    | ((first | refine TW_plain rfl rfl ?_ | refine TW_gmet rfl rfl rfl rfl ?_); first | refine TN_val (qp rfl) rfl rfl ?_ | refine TN_val (rr_load1 (v := .int .i64 ((a + t : Nat) : Int)) TyC.ty rfl (at_blk (i := 1) rfl rfl)) rfl rfl ?_ | refine TN_val (rr_load1 (v := str u) TyC.ty rfl (at_blk (i := 0) rfl rfl)) rfl rfl ?_ | refine TN_val (rr_strfrom Und.eq rfl rfl ht) rfl rfl ?_ | refine TN_val (rr_build rfl hb2) rfl rfl ?_ | refine TN_val (rr_loadB (i := 1) TyC.ty rfl rfl rfl) rfl rfl ?_ | refine TN_val (qfld FldC.fld rfl rfl) rfl rfl ?_ | refine TN_val (rr_add64 rfl rfl (by omega) (by omega) rfl) rfl rfl ?_)
    | refine TW_done ?_)
  refine TW_one rfl ?_
  refine TL_storeB (i := 1) (cs' := (heldC ((a + t : Nat) : Int) (u.drop t) 0).toArray) rfl rfl rfl rfl rfl rfl ?_
  conv => arg 8; simp only [zA, zB, zC, zD, zE, zF, zG, zH, zI, rowS, ret, id_eq]
  refine TW_on (sub_pick [0, 3] (by decide) rfl) ?_
  repeat (first
    | ((first | refine TW_plain rfl rfl ?_ | refine TW_gmet rfl rfl rfl rfl ?_); first | refine TN_val (qp rfl) rfl rfl ?_ | refine TN_val (qfld FldC.fld rfl rfl) rfl rfl ?_ | refine TN_val (rr_add64 rfl rfl (by omega) (by omega) rfl) rfl rfl ?_)
    | refine TW_done ?_)
  refine TW_one rfl ?_
  refine TL_storeB (i := 2) (cs' := (tokC (r, a, a + t)).toArray) rfl rfl rfl rfl rfl rfl ?_
  conv => arg 8; simp only [zA, zB, zC, zD, zE, zF, zG, zH, zI, rowS, ret, id_eq]
  refine TW_on (sub_pick [0, 3] (by decide) rfl) ?_
  repeat (first
    | ((first | refine TW_plain rfl rfl ?_ | refine TW_gmet rfl rfl rfl rfl ?_); first | refine TN_val (qp rfl) rfl rfl ?_ | refine TN_val (qfld FldC.fld rfl rfl) rfl rfl ?_ | refine TN_val (rr_add64 rfl rfl (by omega) (by omega) rfl) rfl rfl ?_)
    | refine TW_done ?_)
  repeat (first
    | refine qv rfl (qp rfl) rfl rfl ?_ | refine TL_nil ?_ | refine T_seq ?_ | refine T_region ?_ | refine T_ret ?_ | refine E_then ?_ | refine E_thenR ?_
    | refine qv rfl (qfld FldC.fld rfl rfl) rfl rfl ?_ | refine qv rfl (rr_add64 rfl rfl (by omega) (by omega) rfl) rfl rfl ?_)
  exact E_retcc (i := 1) (j := 2) rfl rfl rfl rfl rfl rfl rfl fun w hm => hm.ret
end Go.Proofs.Ytkmemlnkijinlaa.eng

/- FeedC -/
namespace Go.Proofs.Ytkmemlnkijinlaa.eng
open Go.RowKit kit mix smallL lexL
/-- what is told -/
def feedS (R : List Tok × Nat × List UInt8 × Int) : Spec Value := ⟨fun _ => True, fun v => .tuple #[.agg (heldC (R.2.1 : Int) R.2.2.1 R.2.2.2).toArray, v, .int .i64 R.2.2.2], fun v => [toksO v R.1]⟩
theorem chkH_ok {c : Int} {a : Nat} {u : List UInt8} (hc : c = 0) (ha : a ≤ 1099511627776) (hu : u.length ≤ 64) : chkH c a u 0 = 0 := by
  unfold chkH
  rw [if_neg (by simpa using hc), if_neg (by omega), if_neg (by decide)]
theorem sub_one {l : List UInt8} {i : Nat} (h : i < l.length) : (l.drop i).take (i + 1 - i) = [l[i]] := by
  rw [Nat.add_sub_cancel_left, List.drop_eq_getElem_cons h]; rfl
set_option maxHeartbeats 8000000 in
theorem feedTok_calls (o : Of) (vn vt : Value) (N : List (List Int)) (tags : List Int) (a0 : Nat) (u0 : List UInt8) (s : List UInt8) (w : World) (h : PkI w vn vt N tags) (hc : chkP o N tags = 0) (ho : ∀ b (h : b < 256), o[b] < 256) (ha0 : a0 ≤ 1099511627776) (hu0 : u0.length ≤ 64) (hs : s.length ≤ 2000) :
    Calls Try.prog 11 #[pkV o vn vt, .agg (heldC (a0 : Int) u0 0).toArray, str s] w (Meets (feedS (feedGo o N tags s a0 u0)) w) := by
  have hck := fun w' (hg : Gr w w') => feedCheck_calls o vn vt N tags (a0 : Int) u0 0 w' (h.gr hg) ho (by omega)
  rw [chkH_ok hc ha0 hu0] at hck
  have hlook := fun (u : List UInt8) (hu : u.length ≤ 65) w' (hg : Gr w w') => look_calls o vn vt N tags u w' (h.gr hg) (chkP_good hc) (by omega)
  have hcut := fun a u r t w' (ha : a ≤ 9223372036854775) ht hu => cut_calls a u 0 r t w' ha ht hu
  have hbE := build_heldE
  obtain ⟨⟨an, cn, rfl, -⟩, at', ct, rfl, -⟩ := h
  refine enter (args := [pkV o (.slice an N.length cn) (.slice at' tags.length ct), .agg (heldC (a0 : Int) u0 0).toArray, str s]) (n := 79) Try.func11 rfl rfl rfl ?_
  refine T_seq (T_region (TL_box rfl rfl rfl fun g3 => TL_box rfl rfl rfl fun g4 => TL_new rfl fun g6 => ?_))
  conv => arg 8; simp only [zA, zB, zC, zD, zE, zF, zG, zH, zI, rowS, ret, id_eq]
  repeat (first
    | refine qv rfl (qp rfl) rfl rfl ?_ | refine TL_nil ?_ | refine T_seq ?_ | refine T_region ?_ | refine qcT rfl ?_ | refine qcF rfl ?_ | refine T_skip ?_
    | refine T_exit ?_ | refine T_ret ?_ | refine T_block ?_ | refine E_then ?_ | refine E_thenX ?_ | refine E_thenR ?_ | refine E_blockN ?_
    | refine E_blockR ?_ | refine E_blockX ?_ | refine E_blockO rfl ?_ | refine qv rfl (rr_loadB (i := 0) TyC.ty rfl rfl (pk_size _ _ _)) rfl rfl ?_
    | refine qv rfl (rr_loadB (i := 1) TyC.ty rfl rfl rfl) rfl rfl ?_ | refine qv rfl (rr_strlen Und.eq rfl) rfl rfl ?_
    | refine qv rfl (qfld FldC.fld rfl rfl) rfl rfl ?_ | refine qv rfl (rr_not rfl rfl) rfl rfl ?_
    | refine qv rfl (rr_lss rfl rfl (qT (by omega))) rfl rfl ?_ | refine qv rfl (rr_lss rfl rfl (qF (by omega))) rfl rfl ?_
    | refine qv rfl (rr_gtr rfl rfl (qT (by omega))) rfl rfl ?_ | refine qv rfl (rr_gtr rfl rfl (qF (by omega))) rfl rfl ?_
    | refine qv rfl (rr_eql rfl rfl (qT (by omega))) rfl rfl ?_ | refine qv rfl (rr_eql rfl rfl (qF (by omega))) rfl rfl ?_
    | refine qv rfl (rr_neq rfl rfl (qT (by omega))) rfl rfl ?_ | refine qv rfl (rr_neq rfl rfl (qF (by omega))) rfl rfl ?_
    | refine qv rfl (rr_add64 rfl rfl (by omega) (by omega) rfl) rfl rfl ?_)
  refine TL_call (he2 EntersC.en rfl rfl rfl) (fun w hm => hck _ hm.below) rfl rfl rfl ?_
  intro _ _
  conv => arg 8; simp only [zA, zB, zC, zD, zE, zF, zG, zH, zI, rowS, ret, id_eq]
  clear hck
  repeat (first
    | refine qv rfl (qp rfl) rfl rfl ?_ | refine TL_nil ?_ | refine T_seq ?_ | refine T_region ?_ | refine qcT rfl ?_ | refine qcF rfl ?_ | refine T_skip ?_
    | refine T_exit ?_ | refine T_ret ?_ | refine T_block ?_ | refine E_then ?_ | refine E_thenX ?_ | refine E_thenR ?_ | refine E_blockN ?_
    | refine E_blockR ?_ | refine E_blockX ?_ | refine E_blockO rfl ?_ | refine qv rfl (rr_neq (b := false) rfl rfl (decide_eq_false (by decide))) rfl rfl ?_
    | refine qv rfl (rr_gtr (b := false) rfl rfl (decide_eq_false (by omega))) rfl rfl ?_ | refine qv rfl (rr_strlen Und.eq rfl) rfl rfl ?_
    | refine qv rfl (qfld FldC.fld rfl rfl) rfl rfl ?_ | refine qv rfl (rr_not rfl rfl) rfl rfl ?_
    | refine qv rfl (rr_lss rfl rfl (qT (by omega))) rfl rfl ?_ | refine qv rfl (rr_lss rfl rfl (qF (by omega))) rfl rfl ?_
    | refine qv rfl (rr_gtr rfl rfl (qT (by omega))) rfl rfl ?_ | refine qv rfl (rr_gtr rfl rfl (qF (by omega))) rfl rfl ?_
    | refine qv rfl (rr_eql rfl rfl (qT (by omega))) rfl rfl ?_ | refine qv rfl (rr_eql rfl rfl (qF (by omega))) rfl rfl ?_
    | refine qv rfl (rr_neq rfl rfl (qT (by omega))) rfl rfl ?_ | refine qv rfl (rr_neq rfl rfl (qF (by omega))) rfl rfl ?_
    | refine qv rfl (rr_add64 rfl rfl (by omega) (by omega) rfl) rfl rfl ?_)
  refine T_nil 36 3 ?_
  conv => arg 7; simp only [zA, zB, zC, zD, zE, zF, zG, zH, zI, rowS, ret, id_eq]
  generalize hfin : feedGo o N tags s a0 u0 = fin
  refine T_loop (ι := Nat × Nat × List UInt8 × List Tok × Value) (fun (i, a, u, out, _) => i ≤ s.length ∧ u.length ≤ 64 ∧ a + u.length ≤ 1099511627840 + i ∧ out.length ≤ a ∧ (out ++ (feedGo o N tags (s.drop i) a u).1, (feedGo o N tags (s.drop i) a u).2) = fin) (fun (i, _, _, _, v) => [(2, str s), (3, .pointer (some ⟨g3, 0, none⟩)), (4, .pointer (some ⟨g4, 0, none⟩)), (6, .pointer (some ⟨g6, 0, none⟩)), (10, v), (28, .int .i64 s.length), (29, .int .i64 (i : Int))])
    (fun (_, a, u, out, v) => [blkO g3 (pkC o (.slice an N.length cn) (.slice at' tags.length ct)).toArray 26, blkO g4 (heldC (a : Int) u 0).toArray 30, blkO g6 (heldC 0 [] 0).toArray 30, toksO v out]) (fun (i, _, _, _, _) => s.length - i) (0, a0, u0, [], .slice none 0 0) ⟨Nat.zero_le _, hu0, by show a0 + u0.length ≤ _; omega, Nat.zero_le _, by rw [List.drop_zero, hfin]; rfl⟩ (by repeat' (first | exact True.intro | refine And.intro rfl ?_)) rfl ?_
  clear hfin
  rintro ⟨i, a1, u1, out1, v1⟩ ⟨i1, i2, i3, i4, i5⟩
  dsimp only at i1 i2 i3 i4 i5 ⊢
  by_cases c1 : i < s.length
  · have hsub := sub_one c1
    rw [List.drop_eq_getElem_cons c1] at i5
    generalize s[i] = b at *
    have hstep := feed_step i5
    clear i5
    repeat (first
      | refine qv rfl (qp rfl) rfl rfl ?_ | refine TL_nil ?_ | refine T_seq ?_ | refine T_region ?_ | refine qcT rfl ?_ | refine qcF rfl ?_ | refine T_skip ?_
      | refine T_exit ?_ | refine T_ret ?_ | refine T_block ?_ | refine E_then ?_ | refine E_thenX ?_ | refine E_thenR ?_ | refine E_blockN ?_
      | refine E_blockR ?_ | refine E_blockX ?_ | refine E_blockO rfl ?_ | refine qv rfl (rr_strlen Und.eq rfl) rfl rfl ?_
      | refine qv rfl (qfld FldC.fld rfl rfl) rfl rfl ?_ | refine qv rfl (rr_not rfl rfl) rfl rfl ?_
      | refine qv rfl (rr_lss rfl rfl (qT (by omega))) rfl rfl ?_ | refine qv rfl (rr_lss rfl rfl (qF (by omega))) rfl rfl ?_
      | refine qv rfl (rr_gtr rfl rfl (qT (by omega))) rfl rfl ?_ | refine qv rfl (rr_gtr rfl rfl (qF (by omega))) rfl rfl ?_
      | refine qv rfl (rr_eql rfl rfl (qT (by omega))) rfl rfl ?_ | refine qv rfl (rr_eql rfl rfl (qF (by omega))) rfl rfl ?_
      | refine qv rfl (rr_neq rfl rfl (qT (by omega))) rfl rfl ?_ | refine qv rfl (rr_neq rfl rfl (qF (by omega))) rfl rfl ?_
      | refine qv rfl (rr_add64 rfl rfl (by omega) (by omega) rfl) rfl rfl ?_)
    refine T_ord ([]) (.calm 0 (.calm 2 (.calm 3 (.calm 4 (.calm 5 (.calm 6 (.one 1 (.calm 7 (.calm 8 (.one 9 (.done))))))))))) (sub_pick [] (by decide) rfl) (by kernel_rfl) (by kernel_rfl) (by intro c a d v w h; cases d <;> exact h) ?_
    repeat (first
      | ((first | refine TW_plain rfl rfl ?_ | refine TW_gmet rfl rfl rfl rfl ?_); first | refine TN_val (qp rfl) rfl rfl ?_ | refine TN_val (rr_strsub (j := i + 1) Und.eq rfl rfl rfl (by omega) (by omega)) rfl rfl ?_ | refine TN_val (rr_add64 (r := ((i + 1 : Nat) : Int)) rfl rfl (by omega) (by omega) (by omega)) rfl rfl ?_ | refine TN_val (rr_strlen Und.eq rfl) rfl rfl ?_ | refine TN_val (qfld FldC.fld rfl rfl) rfl rfl ?_ | refine TN_val (rr_not rfl rfl) rfl rfl ?_ | refine TN_val (rr_lss rfl rfl (qT (by omega))) rfl rfl ?_ | refine TN_val (rr_lss rfl rfl (qF (by omega))) rfl rfl ?_ | refine TN_val (rr_gtr rfl rfl (qT (by omega))) rfl rfl ?_ | refine TN_val (rr_gtr rfl rfl (qF (by omega))) rfl rfl ?_ | refine TN_val (rr_eql rfl rfl (qT (by omega))) rfl rfl ?_ | refine TN_val (rr_eql rfl rfl (qF (by omega))) rfl rfl ?_ | refine TN_val (rr_neq rfl rfl (qT (by omega))) rfl rfl ?_ | refine TN_val (rr_neq rfl rfl (qF (by omega))) rfl rfl ?_ | refine TN_val (rr_add64 rfl rfl (by omega) (by omega) rfl) rfl rfl ?_)
      | refine TW_done ?_)
    rw [hsub]
    refine TW_one rfl (TL_val (rr_load1 (v := str u1) TyC.ty rfl (at_blk (i := 1) rfl rfl)) rfl rfl rfl (TW_on (sub_pick [] (by decide) rfl) ?_))
    repeat (first
      | ((first | refine TW_plain rfl rfl ?_ | refine TW_gmet rfl rfl rfl rfl ?_); first | refine TN_val (qp rfl) rfl rfl ?_ | refine TN_val (rr_stradd rfl rfl (by show u1.length + 1 ≤ _; omega)) rfl rfl ?_ | refine TN_val (rr_strlen Und.eq rfl) rfl rfl ?_ | refine TN_val (qfld FldC.fld rfl rfl) rfl rfl ?_ | refine TN_val (rr_not rfl rfl) rfl rfl ?_ | refine TN_val (rr_lss rfl rfl (qT (by omega))) rfl rfl ?_ | refine TN_val (rr_lss rfl rfl (qF (by omega))) rfl rfl ?_ | refine TN_val (rr_gtr rfl rfl (qT (by omega))) rfl rfl ?_ | refine TN_val (rr_gtr rfl rfl (qF (by omega))) rfl rfl ?_ | refine TN_val (rr_eql rfl rfl (qT (by omega))) rfl rfl ?_ | refine TN_val (rr_eql rfl rfl (qF (by omega))) rfl rfl ?_ | refine TN_val (rr_neq rfl rfl (qT (by omega))) rfl rfl ?_ | refine TN_val (rr_neq rfl rfl (qF (by omega))) rfl rfl ?_ | refine TN_val (rr_add64 rfl rfl (by omega) (by omega) rfl) rfl rfl ?_)
      | refine TW_done ?_)
    refine TW_one rfl ?_
    refine TL_store1 (i := 1) rfl rfl rfl rfl rfl rfl ?_
    conv => arg 8; simp only [zA, zB, zC, zD, zE, zF, zG, zH, zI, rowS, ret, id_eq]
    refine TW_on (sub_pick [] (by decide) rfl) ?_
    repeat (first
      | ((first | refine TW_plain rfl rfl ?_ | refine TW_gmet rfl rfl rfl rfl ?_); first | refine TN_val (qp rfl) rfl rfl ?_ | refine TN_val (rr_strlen Und.eq rfl) rfl rfl ?_ | refine TN_val (qfld FldC.fld rfl rfl) rfl rfl ?_ | refine TN_val (rr_not rfl rfl) rfl rfl ?_ | refine TN_val (rr_lss rfl rfl (qT (by omega))) rfl rfl ?_ | refine TN_val (rr_lss rfl rfl (qF (by omega))) rfl rfl ?_ | refine TN_val (rr_gtr rfl rfl (qT (by omega))) rfl rfl ?_ | refine TN_val (rr_gtr rfl rfl (qF (by omega))) rfl rfl ?_ | refine TN_val (rr_eql rfl rfl (qT (by omega))) rfl rfl ?_ | refine TN_val (rr_eql rfl rfl (qF (by omega))) rfl rfl ?_ | refine TN_val (rr_neq rfl rfl (qT (by omega))) rfl rfl ?_ | refine TN_val (rr_neq rfl rfl (qF (by omega))) rfl rfl ?_ | refine TN_val (rr_add64 rfl rfl (by omega) (by omega) rfl) rfl rfl ?_)
      | refine TW_done ?_)
    repeat (first
      | refine qv rfl (qp rfl) rfl rfl ?_ | refine TL_nil ?_ | refine T_seq ?_ | refine T_region ?_ | refine qcT rfl ?_ | refine qcF rfl ?_ | refine T_skip ?_
      | refine T_exit ?_ | refine T_ret ?_ | refine T_block ?_ | refine E_then ?_ | refine E_thenX ?_ | refine E_thenR ?_ | refine E_blockN ?_
      | refine E_blockR ?_ | refine E_blockX ?_ | refine E_blockO rfl ?_ | refine qv rfl (rr_strlen Und.eq rfl) rfl rfl ?_
      | refine qv rfl (qfld FldC.fld rfl rfl) rfl rfl ?_ | refine qv rfl (rr_not rfl rfl) rfl rfl ?_
      | refine qv rfl (rr_lss rfl rfl (qT (by omega))) rfl rfl ?_ | refine qv rfl (rr_lss rfl rfl (qF (by omega))) rfl rfl ?_
      | refine qv rfl (rr_gtr rfl rfl (qT (by omega))) rfl rfl ?_ | refine qv rfl (rr_gtr rfl rfl (qF (by omega))) rfl rfl ?_
      | refine qv rfl (rr_eql rfl rfl (qT (by omega))) rfl rfl ?_ | refine qv rfl (rr_eql rfl rfl (qF (by omega))) rfl rfl ?_
      | refine qv rfl (rr_neq rfl rfl (qT (by omega))) rfl rfl ?_ | refine qv rfl (rr_neq rfl rfl (qF (by omega))) rfl rfl ?_
      | refine qv rfl (rr_add64 rfl rfl (by omega) (by omega) rfl) rfl rfl ?_)
    generalize hD : drainF o N tags (u1.length + 2) a1 (u1 ++ [b]) = D at hstep
    refine T_loop (ι := Nat × Nat × List UInt8 × List Tok × Value) (fun (f, a, u, out, _) => u.length < f ∧ u.length ≤ 65 ∧ a + u.length ≤ 1099511627840 + i + 1 ∧ out.length ≤ a ∧ (out ++ (drainF o N tags f a u).1, (drainF o N tags f a u).2) = (out1 ++ D.1, D.2)) (fun (_, _, _, _, v) => [(2, str s), (3, .pointer (some ⟨g3, 0, none⟩)), (4, .pointer (some ⟨g4, 0, none⟩)), (6, .pointer (some ⟨g6, 0, none⟩)), (10, v), (28, .int .i64 s.length), (29, .int .i64 (i : Int))])
      (fun (_, a, u, out, v) => [blkO g3 (pkC o (.slice an N.length cn) (.slice at' tags.length ct)).toArray 26, blkO g4 (heldC (a : Int) u 0).toArray 30, blkO g6 (heldC 0 [] 0).toArray 30, toksO v out]) (fun (f, _, _, _, _) => f) (u1.length + 2, a1, u1 ++ [b], out1, v1) ⟨by show (u1 ++ [b]).length < _; rw [List.length_append]; exact Nat.lt_succ_self _, by show (u1 ++ [b]).length ≤ 65; rw [List.length_append]; simp; omega, by show a1 + (u1 ++ [b]).length ≤ _; rw [List.length_append]; simp; omega, i4, by rw [hD]⟩ (by repeat' (first | exact True.intro | refine And.intro rfl ?_)) rfl ?_
    clear hD
    rintro ⟨f, a, u, out, v⟩ ⟨j1, j2, j3, j4, j5⟩
    dsimp only at j1 j2 j3 j4 j5 ⊢
    obtain ⟨f, rfl⟩ : ∃ f', f = f' + 1 := ⟨f - 1, by omega⟩
    rw [drain_succ] at j5
    have hto := lookF_to o N tags u
    have hlk := hlook u j2
    generalize lookF o N tags u = lk at *
    obtain ⟨⟨r, t⟩, sr⟩ := lk
    dsimp only at hto hlk j5
    repeat (first
      | refine qv rfl (qp rfl) rfl rfl ?_ | refine TL_nil ?_ | refine T_seq ?_ | refine T_region ?_ | refine qcT rfl ?_ | refine qcF rfl ?_ | refine T_skip ?_
      | refine T_exit ?_ | refine T_ret ?_ | refine T_block ?_ | refine E_then ?_ | refine E_thenX ?_ | refine E_thenR ?_ | refine E_blockN ?_
      | refine E_blockR ?_ | refine E_blockX ?_ | refine E_blockO rfl ?_ | refine qv rfl (rr_loadB (i := 0) TyC.ty rfl rfl (pk_size _ _ _)) rfl rfl ?_
      | refine qv rfl (rr_load1 (v := str u) TyC.ty rfl (at_blk (i := 1) rfl rfl)) rfl rfl ?_ | refine qv rfl (rr_strlen Und.eq rfl) rfl rfl ?_
      | refine qv rfl (qfld FldC.fld rfl rfl) rfl rfl ?_ | refine qv rfl (rr_not rfl rfl) rfl rfl ?_
      | refine qv rfl (rr_lss rfl rfl (qT (by omega))) rfl rfl ?_ | refine qv rfl (rr_lss rfl rfl (qF (by omega))) rfl rfl ?_
      | refine qv rfl (rr_gtr rfl rfl (qT (by omega))) rfl rfl ?_ | refine qv rfl (rr_gtr rfl rfl (qF (by omega))) rfl rfl ?_
      | refine qv rfl (rr_eql rfl rfl (qT (by omega))) rfl rfl ?_ | refine qv rfl (rr_eql rfl rfl (qF (by omega))) rfl rfl ?_
      | refine qv rfl (rr_neq rfl rfl (qT (by omega))) rfl rfl ?_ | refine qv rfl (rr_neq rfl rfl (qF (by omega))) rfl rfl ?_
      | refine qv rfl (rr_add64 rfl rfl (by omega) (by omega) rfl) rfl rfl ?_)
    refine TL_call (he2 EntersC.en rfl rfl rfl) (fun w hm => hlk _ hm.below) rfl rfl rfl ?_
    intro _ _
    conv => arg 8; simp only [zA, zB, zC, zD, zE, zF, zG, zH, zI, rowS, ret, id_eq]
    cases sr with
    | false =>
      rw [if_neg (by decide)] at j5
      have j5 : (out ++ [], a, u, (0 : Int)) = (out1 ++ D.1, D.2) := j5
      rw [List.append_nil] at j5
      obtain ⟨_, k2, k3⟩ := hstep out a u 0 j5
      clear hstep j5 hlk
      by_cases c2 : 64 < u.length
      · have k4 := k2 rfl c2
        subst k4
        repeat (first
          | refine qv rfl (qp rfl) rfl rfl ?_ | refine TL_nil ?_ | refine T_seq ?_ | refine T_region ?_ | refine qcT rfl ?_ | refine qcF rfl ?_ | refine T_skip ?_
          | refine T_exit ?_ | refine T_ret ?_ | refine T_block ?_ | refine E_then ?_ | refine E_thenX ?_ | refine E_thenR ?_ | refine E_blockN ?_
          | refine E_blockR ?_ | refine E_blockX ?_ | refine E_blockO rfl ?_
          | refine qv rfl (rr_load1 (v := str u) TyC.ty rfl (at_blk (i := 1) rfl rfl)) rfl rfl ?_
          | refine qv rfl (rr_gtr (b := true) rfl rfl (decide_eq_true (by omega))) rfl rfl ?_
          | refine qv rfl (rr_load1 (v := .int .i64 (a : Int)) TyC.ty rfl (at_blk (i := 1) rfl rfl)) rfl rfl ?_ | refine qv rfl (rr_build rfl (hbE _ _)) rfl rfl ?_
          | refine qv rfl (rr_strlen Und.eq rfl) rfl rfl ?_ | refine qv rfl (qfld FldC.fld rfl rfl) rfl rfl ?_ | refine qv rfl (rr_not rfl rfl) rfl rfl ?_
          | refine qv rfl (rr_lss rfl rfl (qT (by omega))) rfl rfl ?_ | refine qv rfl (rr_lss rfl rfl (qF (by omega))) rfl rfl ?_
          | refine qv rfl (rr_gtr rfl rfl (qT (by omega))) rfl rfl ?_ | refine qv rfl (rr_gtr rfl rfl (qF (by omega))) rfl rfl ?_
          | refine qv rfl (rr_eql rfl rfl (qT (by omega))) rfl rfl ?_ | refine qv rfl (rr_eql rfl rfl (qF (by omega))) rfl rfl ?_
          | refine qv rfl (rr_neq rfl rfl (qT (by omega))) rfl rfl ?_ | refine qv rfl (rr_neq rfl rfl (qF (by omega))) rfl rfl ?_
          | refine qv rfl (rr_add64 rfl rfl (by omega) (by omega) rfl) rfl rfl ?_)
        refine TL_storeB (i := 2) (cs' := (heldC (a : Int) [] 10).toArray) rfl rfl rfl rfl rfl rfl ?_
        conv => arg 8; simp only [zA, zB, zC, zD, zE, zF, zG, zH, zI, rowS, ret, id_eq]
        repeat (first
          | refine qv rfl (qp rfl) rfl rfl ?_ | refine TL_nil ?_ | refine T_seq ?_ | refine T_region ?_ | refine qcT rfl ?_ | refine qcF rfl ?_ | refine T_skip ?_
          | refine T_exit ?_ | refine T_ret ?_ | refine T_block ?_ | refine E_then ?_ | refine E_thenX ?_ | refine E_thenR ?_ | refine E_blockN ?_
          | refine E_blockR ?_ | refine E_blockX ?_ | refine E_blockO rfl ?_ | refine qv rfl (rr_strlen Und.eq rfl) rfl rfl ?_
          | refine qv rfl (qfld FldC.fld rfl rfl) rfl rfl ?_ | refine qv rfl (rr_not rfl rfl) rfl rfl ?_
          | refine qv rfl (rr_lss rfl rfl (qT (by omega))) rfl rfl ?_ | refine qv rfl (rr_lss rfl rfl (qF (by omega))) rfl rfl ?_
          | refine qv rfl (rr_gtr rfl rfl (qT (by omega))) rfl rfl ?_ | refine qv rfl (rr_gtr rfl rfl (qF (by omega))) rfl rfl ?_
          | refine qv rfl (rr_eql rfl rfl (qT (by omega))) rfl rfl ?_ | refine qv rfl (rr_eql rfl rfl (qF (by omega))) rfl rfl ?_
          | refine qv rfl (rr_neq rfl rfl (qT (by omega))) rfl rfl ?_ | refine qv rfl (rr_neq rfl rfl (qF (by omega))) rfl rfl ?_
          | refine qv rfl (rr_add64 rfl rfl (by omega) (by omega) rfl) rfl rfl ?_)
        exact E_retc3 (i := 2) rfl rfl rfl rfl rfl rfl fun w hm => hm.meets (S := feedS (out, a, [], 10)) v trivial [3] (by decide) rfl
      · have k4 := k3 rfl c2
        repeat (first
          | refine qv rfl (qp rfl) rfl rfl ?_ | refine TL_nil ?_ | refine T_seq ?_ | refine T_region ?_ | refine qcT rfl ?_ | refine qcF rfl ?_ | refine T_skip ?_
          | refine T_exit ?_ | refine T_ret ?_ | refine T_block ?_ | refine E_then ?_ | refine E_thenX ?_ | refine E_thenR ?_ | refine E_blockN ?_
          | refine E_blockR ?_ | refine E_blockX ?_ | refine E_blockO rfl ?_
          | refine qv rfl (rr_load1 (v := str u) TyC.ty rfl (at_blk (i := 1) rfl rfl)) rfl rfl ?_
          | refine qv rfl (rr_gtr (b := false) rfl rfl (decide_eq_false (by omega))) rfl rfl ?_ | refine qv rfl (rr_strlen Und.eq rfl) rfl rfl ?_
          | refine qv rfl (qfld FldC.fld rfl rfl) rfl rfl ?_ | refine qv rfl (rr_not rfl rfl) rfl rfl ?_
          | refine qv rfl (rr_lss rfl rfl (qT (by omega))) rfl rfl ?_ | refine qv rfl (rr_lss rfl rfl (qF (by omega))) rfl rfl ?_
          | refine qv rfl (rr_gtr rfl rfl (qT (by omega))) rfl rfl ?_ | refine qv rfl (rr_gtr rfl rfl (qF (by omega))) rfl rfl ?_
          | refine qv rfl (rr_eql rfl rfl (qT (by omega))) rfl rfl ?_ | refine qv rfl (rr_eql rfl rfl (qF (by omega))) rfl rfl ?_
          | refine qv rfl (rr_neq rfl rfl (qT (by omega))) rfl rfl ?_ | refine qv rfl (rr_neq rfl rfl (qF (by omega))) rfl rfl ?_
          | refine qv rfl (rr_add64 rfl rfl (by omega) (by omega) rfl) rfl rfl ?_)
        exact E_round (i + 1, a, u, out, v) ⟨by show i + 1 ≤ s.length; omega, by show u.length ≤ 64; omega, by show a + u.length ≤ 1099511627840 + (i + 1); omega, j4, k4⟩ (by show s.length - (i + 1) < s.length - i; omega) (by repeat' (first | exact True.intro | refine And.intro rfl ?_)) rfl
    | true =>
      rw [if_pos rfl] at j5
      by_cases c2 : t = 0
      · rw [if_pos c2] at j5
        have j5 : (out ++ [], a, u, (9 : Int)) = (out1 ++ D.1, D.2) := j5
        rw [List.append_nil] at j5
        have k4 := (hstep out a u 9 j5).1 (by decide)
        clear hstep j5 hlk
        subst k4 c2
        repeat (first
          | refine qv rfl (qp rfl) rfl rfl ?_ | refine TL_nil ?_ | refine T_seq ?_ | refine T_region ?_ | refine qcT rfl ?_ | refine qcF rfl ?_ | refine T_skip ?_
          | refine T_exit ?_ | refine T_ret ?_ | refine T_block ?_ | refine E_then ?_ | refine E_thenX ?_ | refine E_thenR ?_ | refine E_blockN ?_
          | refine E_blockR ?_ | refine E_blockX ?_ | refine E_blockO rfl ?_ | refine qv rfl (rr_eql (b := true) rfl rfl (decide_eq_true rfl)) rfl rfl ?_
          | refine qv rfl (rr_load1 (v := .int .i64 (a : Int)) TyC.ty rfl (at_blk (i := 1) rfl rfl)) rfl rfl ?_ | refine qv rfl (rr_build rfl (hbE _ _)) rfl rfl ?_
          | refine qv rfl (rr_strlen Und.eq rfl) rfl rfl ?_ | refine qv rfl (qfld FldC.fld rfl rfl) rfl rfl ?_ | refine qv rfl (rr_not rfl rfl) rfl rfl ?_
          | refine qv rfl (rr_lss rfl rfl (qT (by omega))) rfl rfl ?_ | refine qv rfl (rr_lss rfl rfl (qF (by omega))) rfl rfl ?_
          | refine qv rfl (rr_gtr rfl rfl (qT (by omega))) rfl rfl ?_ | refine qv rfl (rr_gtr rfl rfl (qF (by omega))) rfl rfl ?_
          | refine qv rfl (rr_eql rfl rfl (qT (by omega))) rfl rfl ?_ | refine qv rfl (rr_eql rfl rfl (qF (by omega))) rfl rfl ?_
          | refine qv rfl (rr_neq rfl rfl (qT (by omega))) rfl rfl ?_ | refine qv rfl (rr_neq rfl rfl (qF (by omega))) rfl rfl ?_
          | refine qv rfl (rr_add64 rfl rfl (by omega) (by omega) rfl) rfl rfl ?_)
        refine TL_storeB (i := 2) (cs' := (heldC (a : Int) [] 9).toArray) rfl rfl rfl rfl rfl rfl ?_
        conv => arg 8; simp only [zA, zB, zC, zD, zE, zF, zG, zH, zI, rowS, ret, id_eq]
        repeat (first
          | refine qv rfl (qp rfl) rfl rfl ?_ | refine TL_nil ?_ | refine T_seq ?_ | refine T_region ?_ | refine qcT rfl ?_ | refine qcF rfl ?_ | refine T_skip ?_
          | refine T_exit ?_ | refine T_ret ?_ | refine T_block ?_ | refine E_then ?_ | refine E_thenX ?_ | refine E_thenR ?_ | refine E_blockN ?_
          | refine E_blockR ?_ | refine E_blockX ?_ | refine E_blockO rfl ?_ | refine qv rfl (rr_strlen Und.eq rfl) rfl rfl ?_
          | refine qv rfl (qfld FldC.fld rfl rfl) rfl rfl ?_ | refine qv rfl (rr_not rfl rfl) rfl rfl ?_
          | refine qv rfl (rr_lss rfl rfl (qT (by omega))) rfl rfl ?_ | refine qv rfl (rr_lss rfl rfl (qF (by omega))) rfl rfl ?_
          | refine qv rfl (rr_gtr rfl rfl (qT (by omega))) rfl rfl ?_ | refine qv rfl (rr_gtr rfl rfl (qF (by omega))) rfl rfl ?_
          | refine qv rfl (rr_eql rfl rfl (qT (by omega))) rfl rfl ?_ | refine qv rfl (rr_eql rfl rfl (qF (by omega))) rfl rfl ?_
          | refine qv rfl (rr_neq rfl rfl (qT (by omega))) rfl rfl ?_ | refine qv rfl (rr_neq rfl rfl (qF (by omega))) rfl rfl ?_
          | refine qv rfl (rr_add64 rfl rfl (by omega) (by omega) rfl) rfl rfl ?_)
        exact E_retc3 (i := 2) rfl rfl rfl rfl rfl rfl fun w hm => hm.meets (S := feedS (out, a, [], 9)) v trivial [3] (by decide) rfl
      · rw [if_neg c2] at j5
        have ht := hto.resolve_left c2
        have hct := hcut a u r t
        have hdl : (u.drop t).length = u.length - t := List.length_drop ..
        clear hlk hlook hcut
        repeat (first
          | refine qv rfl (qp rfl) rfl rfl ?_ | refine TL_nil ?_ | refine T_seq ?_ | refine T_region ?_ | refine qcT rfl ?_ | refine qcF rfl ?_ | refine T_skip ?_
          | refine T_exit ?_ | refine T_ret ?_ | refine T_block ?_ | refine E_then ?_ | refine E_thenX ?_ | refine E_thenR ?_ | refine E_blockN ?_
          | refine E_blockR ?_ | refine E_blockX ?_ | refine E_blockO rfl ?_ | refine qv rfl (rr_eql (b := false) rfl rfl (decide_eq_false (by omega))) rfl rfl ?_
          | refine qv rfl (rr_strlen Und.eq rfl) rfl rfl ?_ | refine qv rfl (qfld FldC.fld rfl rfl) rfl rfl ?_ | refine qv rfl (rr_not rfl rfl) rfl rfl ?_
          | refine qv rfl (rr_lss rfl rfl (qT (by omega))) rfl rfl ?_ | refine qv rfl (rr_lss rfl rfl (qF (by omega))) rfl rfl ?_
          | refine qv rfl (rr_gtr rfl rfl (qT (by omega))) rfl rfl ?_ | refine qv rfl (rr_gtr rfl rfl (qF (by omega))) rfl rfl ?_
          | refine qv rfl (rr_eql rfl rfl (qT (by omega))) rfl rfl ?_ | refine qv rfl (rr_eql rfl rfl (qF (by omega))) rfl rfl ?_
          | refine qv rfl (rr_neq rfl rfl (qT (by omega))) rfl rfl ?_ | refine qv rfl (rr_neq rfl rfl (qF (by omega))) rfl rfl ?_
          | refine qv rfl (rr_add64 rfl rfl (by omega) (by omega) rfl) rfl rfl ?_)
        refine TL_new rfl fun g15 => ?_
        conv => arg 8; simp only [zA, zB, zC, zD, zE, zF, zG, zH, zI, rowS, ret, id_eq]
        repeat (first
          | refine qv rfl (qp rfl) rfl rfl ?_ | refine TL_nil ?_ | refine T_seq ?_ | refine T_region ?_ | refine qcT rfl ?_ | refine qcF rfl ?_ | refine T_skip ?_
          | refine T_exit ?_ | refine T_ret ?_ | refine T_block ?_ | refine E_then ?_ | refine E_thenX ?_ | refine E_thenR ?_ | refine E_blockN ?_
          | refine E_blockR ?_ | refine E_blockX ?_ | refine E_blockO rfl ?_ | refine qv rfl (rr_loadB (i := 1) TyC.ty rfl rfl rfl) rfl rfl ?_
          | refine qv rfl (rr_strlen Und.eq rfl) rfl rfl ?_ | refine qv rfl (qfld FldC.fld rfl rfl) rfl rfl ?_ | refine qv rfl (rr_not rfl rfl) rfl rfl ?_
          | refine qv rfl (rr_lss rfl rfl (qT (by omega))) rfl rfl ?_ | refine qv rfl (rr_lss rfl rfl (qF (by omega))) rfl rfl ?_
          | refine qv rfl (rr_gtr rfl rfl (qT (by omega))) rfl rfl ?_ | refine qv rfl (rr_gtr rfl rfl (qF (by omega))) rfl rfl ?_
          | refine qv rfl (rr_eql rfl rfl (qT (by omega))) rfl rfl ?_ | refine qv rfl (rr_eql rfl rfl (qF (by omega))) rfl rfl ?_
          | refine qv rfl (rr_neq rfl rfl (qT (by omega))) rfl rfl ?_ | refine qv rfl (rr_neq rfl rfl (qF (by omega))) rfl rfl ?_
          | refine qv rfl (rr_add64 rfl rfl (by omega) (by omega) rfl) rfl rfl ?_)
        refine TL_call (he3 EntersC.en rfl rfl rfl rfl) (fun w hm => hct w (by omega) ht.2 (by omega)) rfl rfl rfl ?_
        intro _ _
        conv => arg 8; simp only [zA, zB, zC, zD, zE, zF, zG, zH, zI, rowS, ret, id_eq]
        repeat (first
          | refine qv rfl (qp rfl) rfl rfl ?_ | refine TL_nil ?_ | refine T_seq ?_ | refine T_region ?_ | refine qcT rfl ?_ | refine qcF rfl ?_ | refine T_skip ?_
          | refine T_exit ?_ | refine T_ret ?_ | refine T_block ?_ | refine E_then ?_ | refine E_thenX ?_ | refine E_thenR ?_ | refine E_blockN ?_
          | refine E_blockR ?_ | refine E_blockX ?_ | refine E_blockO rfl ?_ | refine qv rfl (rr_strlen Und.eq rfl) rfl rfl ?_
          | refine qv rfl (qfld FldC.fld rfl rfl) rfl rfl ?_ | refine qv rfl (rr_not rfl rfl) rfl rfl ?_
          | refine qv rfl (rr_lss rfl rfl (qT (by omega))) rfl rfl ?_ | refine qv rfl (rr_lss rfl rfl (qF (by omega))) rfl rfl ?_
          | refine qv rfl (rr_gtr rfl rfl (qT (by omega))) rfl rfl ?_ | refine qv rfl (rr_gtr rfl rfl (qF (by omega))) rfl rfl ?_
          | refine qv rfl (rr_eql rfl rfl (qT (by omega))) rfl rfl ?_ | refine qv rfl (rr_eql rfl rfl (qF (by omega))) rfl rfl ?_
          | refine qv rfl (rr_neq rfl rfl (qT (by omega))) rfl rfl ?_ | refine qv rfl (rr_neq rfl rfl (qF (by omega))) rfl rfl ?_
          | refine qv rfl (rr_add64 rfl rfl (by omega) (by omega) rfl) rfl rfl ?_)
        refine TL_storeB (i := 1) (cs' := (heldC ((a + t : Nat) : Int) (u.drop t) 0).toArray) rfl rfl rfl rfl rfl rfl ?_
        conv => arg 8; simp only [zA, zB, zC, zD, zE, zF, zG, zH, zI, rowS, ret, id_eq]
        repeat (first
          | refine qv rfl (qp rfl) rfl rfl ?_ | refine TL_nil ?_ | refine T_seq ?_ | refine T_region ?_ | refine qcT rfl ?_ | refine qcF rfl ?_ | refine T_skip ?_
          | refine T_exit ?_ | refine T_ret ?_ | refine T_block ?_ | refine E_then ?_ | refine E_thenX ?_ | refine E_thenR ?_ | refine E_blockN ?_
          | refine E_blockR ?_ | refine E_blockX ?_ | refine E_blockO rfl ?_ | refine qv rfl (rr_strlen Und.eq rfl) rfl rfl ?_
          | refine qv rfl (qfld FldC.fld rfl rfl) rfl rfl ?_ | refine qv rfl (rr_not rfl rfl) rfl rfl ?_
          | refine qv rfl (rr_lss rfl rfl (qT (by omega))) rfl rfl ?_ | refine qv rfl (rr_lss rfl rfl (qF (by omega))) rfl rfl ?_
          | refine qv rfl (rr_gtr rfl rfl (qT (by omega))) rfl rfl ?_ | refine qv rfl (rr_gtr rfl rfl (qF (by omega))) rfl rfl ?_
          | refine qv rfl (rr_eql rfl rfl (qT (by omega))) rfl rfl ?_ | refine qv rfl (rr_eql rfl rfl (qF (by omega))) rfl rfl ?_
          | refine qv rfl (rr_neq rfl rfl (qT (by omega))) rfl rfl ?_ | refine qv rfl (rr_neq rfl rfl (qF (by omega))) rfl rfl ?_
          | refine qv rfl (rr_add64 rfl rfl (by omega) (by omega) rfl) rfl rfl ?_)
        refine TL_storeB (i := 4) (cs' := (tokC (r, a, a + t)).toArray) rfl rfl rfl rfl rfl rfl ?_
        conv => arg 8; simp only [zA, zB, zC, zD, zE, zF, zG, zH, zI, rowS, ret, id_eq]
        repeat (first
          | refine qv rfl (qp rfl) rfl rfl ?_ | refine TL_nil ?_ | refine T_seq ?_ | refine T_region ?_ | refine qcT rfl ?_ | refine qcF rfl ?_ | refine T_skip ?_
          | refine T_exit ?_ | refine T_ret ?_ | refine T_block ?_ | refine E_then ?_ | refine E_thenX ?_ | refine E_thenR ?_ | refine E_blockN ?_
          | refine E_blockR ?_ | refine E_blockX ?_ | refine E_blockO rfl ?_ | refine qv rfl (rr_loadB (i := 4) TyC.ty rfl rfl rfl) rfl rfl ?_
          | refine qv rfl (rr_strlen Und.eq rfl) rfl rfl ?_ | refine qv rfl (qfld FldC.fld rfl rfl) rfl rfl ?_ | refine qv rfl (rr_not rfl rfl) rfl rfl ?_
          | refine qv rfl (rr_lss rfl rfl (qT (by omega))) rfl rfl ?_ | refine qv rfl (rr_lss rfl rfl (qF (by omega))) rfl rfl ?_
          | refine qv rfl (rr_gtr rfl rfl (qT (by omega))) rfl rfl ?_ | refine qv rfl (rr_gtr rfl rfl (qF (by omega))) rfl rfl ?_
          | refine qv rfl (rr_eql rfl rfl (qT (by omega))) rfl rfl ?_ | refine qv rfl (rr_eql rfl rfl (qF (by omega))) rfl rfl ?_
          | refine qv rfl (rr_neq rfl rfl (qT (by omega))) rfl rfl ?_ | refine qv rfl (rr_neq rfl rfl (qF (by omega))) rfl rfl ?_
          | refine qv rfl (rr_add64 rfl rfl (by omega) (by omega) rfl) rfl rfl ?_)
        refine TL_pushN (i := 3) rfl rfl rfl rfl rfl rfl rfl (fun z h => by cases h; rfl) (by omega) (by omega) rfl fun z v2 => ?_
        conv => arg 8; simp only [zA, zB, zC, zD, zE, zF, zG, zH, zI, rowS, ret, id_eq]
        repeat (first
          | refine qv rfl (qp rfl) rfl rfl ?_ | refine TL_nil ?_ | refine T_seq ?_ | refine T_region ?_ | refine qcT rfl ?_ | refine qcF rfl ?_ | refine T_skip ?_
          | refine T_exit ?_ | refine T_ret ?_ | refine T_block ?_ | refine E_then ?_ | refine E_thenX ?_ | refine E_thenR ?_ | refine E_blockN ?_
          | refine E_blockR ?_ | refine E_blockX ?_ | refine E_blockO rfl ?_ | refine qv rfl (rr_strlen Und.eq rfl) rfl rfl ?_
          | refine qv rfl (qfld FldC.fld rfl rfl) rfl rfl ?_ | refine qv rfl (rr_not rfl rfl) rfl rfl ?_
          | refine qv rfl (rr_lss rfl rfl (qT (by omega))) rfl rfl ?_ | refine qv rfl (rr_lss rfl rfl (qF (by omega))) rfl rfl ?_
          | refine qv rfl (rr_gtr rfl rfl (qT (by omega))) rfl rfl ?_ | refine qv rfl (rr_gtr rfl rfl (qF (by omega))) rfl rfl ?_
          | refine qv rfl (rr_eql rfl rfl (qT (by omega))) rfl rfl ?_ | refine qv rfl (rr_eql rfl rfl (qF (by omega))) rfl rfl ?_
          | refine qv rfl (rr_neq rfl rfl (qT (by omega))) rfl rfl ?_ | refine qv rfl (rr_neq rfl rfl (qF (by omega))) rfl rfl ?_
          | refine qv rfl (rr_add64 rfl rfl (by omega) (by omega) rfl) rfl rfl ?_)
        refine E_pick [0, 1, 2, 3] (by decide) rfl ?_
        exact E_round (f, a + t, u.drop t, out ++ [(r, a, a + t)], v2) ⟨by show (u.drop t).length < f; omega, by show (u.drop t).length ≤ 65; omega, by show a + t + (u.drop t).length ≤ 1099511627840 + i + 1; omega, by show (out ++ [(r, a, a + t)]).length ≤ a + t; rw [List.length_append]; simp; omega, by rw [List.append_assoc]; exact j5⟩ (by show f < f + 1; omega) (by repeat' (first | exact True.intro | refine And.intro rfl ?_)) (by dsimp only; rw [toks_snoc]; rfl)
  · rw [List.drop_eq_nil_of_le (by omega)] at i5
    have i5 : (out1 ++ [], a1, u1, 0) = fin := i5
    rw [List.append_nil] at i5
    subst i5
    repeat (first
      | refine qv rfl (qp rfl) rfl rfl ?_ | refine TL_nil ?_ | refine T_seq ?_ | refine T_region ?_ | refine qcT rfl ?_ | refine qcF rfl ?_ | refine T_skip ?_
      | refine T_exit ?_ | refine T_ret ?_ | refine T_block ?_ | refine E_then ?_ | refine E_thenX ?_ | refine E_thenR ?_ | refine E_blockN ?_
      | refine E_blockR ?_ | refine E_blockX ?_ | refine E_blockO rfl ?_ | refine qv rfl (rr_loadB (i := 1) TyC.ty rfl rfl rfl) rfl rfl ?_
      | refine qv rfl (rr_strlen Und.eq rfl) rfl rfl ?_ | refine qv rfl (qfld FldC.fld rfl rfl) rfl rfl ?_ | refine qv rfl (rr_not rfl rfl) rfl rfl ?_
      | refine qv rfl (rr_lss rfl rfl (qT (by omega))) rfl rfl ?_ | refine qv rfl (rr_lss rfl rfl (qF (by omega))) rfl rfl ?_
      | refine qv rfl (rr_gtr rfl rfl (qT (by omega))) rfl rfl ?_ | refine qv rfl (rr_gtr rfl rfl (qF (by omega))) rfl rfl ?_
      | refine qv rfl (rr_eql rfl rfl (qT (by omega))) rfl rfl ?_ | refine qv rfl (rr_eql rfl rfl (qF (by omega))) rfl rfl ?_
      | refine qv rfl (rr_neq rfl rfl (qT (by omega))) rfl rfl ?_ | refine qv rfl (rr_neq rfl rfl (qF (by omega))) rfl rfl ?_
      | refine qv rfl (rr_add64 rfl rfl (by omega) (by omega) rfl) rfl rfl ?_)
    refine TL_storeB (i := 2) (cs' := (heldC (a1 : Int) u1 0).toArray) rfl rfl rfl rfl rfl rfl ?_
    conv => arg 8; simp only [zA, zB, zC, zD, zE, zF, zG, zH, zI, rowS, ret, id_eq]
    repeat (first
      | refine qv rfl (qp rfl) rfl rfl ?_ | refine TL_nil ?_ | refine T_seq ?_ | refine T_region ?_ | refine qcT rfl ?_ | refine qcF rfl ?_ | refine T_skip ?_
      | refine T_exit ?_ | refine T_ret ?_ | refine T_block ?_ | refine E_then ?_ | refine E_thenX ?_ | refine E_thenR ?_ | refine E_blockN ?_
      | refine E_blockR ?_ | refine E_blockX ?_ | refine E_blockO rfl ?_ | refine qv rfl (rr_strlen Und.eq rfl) rfl rfl ?_
      | refine qv rfl (qfld FldC.fld rfl rfl) rfl rfl ?_ | refine qv rfl (rr_not rfl rfl) rfl rfl ?_
      | refine qv rfl (rr_lss rfl rfl (qT (by omega))) rfl rfl ?_ | refine qv rfl (rr_lss rfl rfl (qF (by omega))) rfl rfl ?_
      | refine qv rfl (rr_gtr rfl rfl (qT (by omega))) rfl rfl ?_ | refine qv rfl (rr_gtr rfl rfl (qF (by omega))) rfl rfl ?_
      | refine qv rfl (rr_eql rfl rfl (qT (by omega))) rfl rfl ?_ | refine qv rfl (rr_eql rfl rfl (qF (by omega))) rfl rfl ?_
      | refine qv rfl (rr_neq rfl rfl (qT (by omega))) rfl rfl ?_ | refine qv rfl (rr_neq rfl rfl (qF (by omega))) rfl rfl ?_
      | refine qv rfl (rr_add64 rfl rfl (by omega) (by omega) rfl) rfl rfl ?_)
    exact E_retc3 (i := 2) rfl rfl rfl rfl rfl rfl fun w hm => hm.meets (S := feedS (out1, a1, u1, 0)) v1 trivial [3] (by decide) rfl
end Go.Proofs.Ytkmemlnkijinlaa.eng

/- FeedV -/
namespace Go.Proofs.Ytkmemlnkijinlaa.lexL
open Go.RowKit kit mix eng smallL
theorem sure_all {o : Of} {N : List (List Int)} {tags : List Int} (hg : PkGood o N tags) {q : Nat} (hq : q < N.length) (h : sureF o N (q : Int) [] = true) (b : UInt8) : nxP o N (q : Int) b < 0 := by
  obtain ⟨_, hw, e, _⟩ := nxP_in hg hq b
  have hN : N.getD ((q : Int).toNat) [] = N[q] := by rw [Int.toNat_natCast, List.getD_eq_getElem?_getD, List.getElem?_eq_getElem hq]; rfl
  have h : (!((N.getD ((q : Int).toNat) []).any fun x => decide (0 ≤ x))) = true := h
  rw [hN, Bool.not_eq_true', List.any_eq_false] at h
  have := h _ (List.getElem_mem hw)
  rw [e]
  simpa using this
/-- settled: more changes nothing -/
theorem oneGo_more {o : Of} {N : List (List Int)} {tags : List Int} (hg : PkGood o N tags) (m : List UInt8) : ∀ (u : List UInt8) (i : Nat) (q : Nat) (r : Int) (t : Nat), q < N.length → sureF o N (q : Int) u = true → oneGo o N tags (u ++ m) i (q : Int) r t = oneGo o N tags u i (q : Int) r t
  | [], i, q, r, t, hq, h => by
    cases m with
    | nil => rfl
    | cons b m =>
      show oneGo o N tags (b :: m) i (q : Int) r t = (r, t)
      rw [oneGo_cons, if_pos (sure_all hg hq h b)]
  | b :: u, i, q, r, t, hq, h => by
    rw [sureF_cons] at h
    obtain ⟨_, _, _, h1, h2⟩ := nxP_in hg hq b
    rw [List.cons_append, oneGo_cons, oneGo_cons]
    by_cases c : nxP o N (q : Int) b < 0
    · rw [if_pos c, if_pos c]
    · rw [if_neg c] at h
      obtain ⟨x, hx⟩ := Int.eq_ofNat_of_zero_le (show 0 ≤ nxP o N (q : Int) b by omega)
      rw [hx] at h h2 ⊢
      rw [oneGo_more hg m u _ x _ _ (by omega) h, oneGo_more hg m u _ x _ _ (by omega) h]
/-- shifted -/
theorem oneGo_shift {o : Of} {N : List (List Int)} {tags : List Int} (a : Nat) : ∀ (u : List UInt8) (i : Nat) (now r : Int) (t t' : Nat), ((t = 0 ∧ t' = 0) ∨ (t ≠ 0 ∧ t' = a + t)) →
    (oneGo o N tags u (a + i) now r t').1 = (oneGo o N tags u i now r t).1 ∧ (((oneGo o N tags u i now r t).2 = 0 ∧ (oneGo o N tags u (a + i) now r t').2 = 0) ∨ ((oneGo o N tags u i now r t).2 ≠ 0 ∧ (oneGo o N tags u (a + i) now r t').2 = a + (oneGo o N tags u i now r t).2))
  | [], _, _, _, _, _, h => ⟨rfl, h⟩
  | b :: u, i, now, r, t, t', h => by
    rw [oneGo_cons, oneGo_cons]
    by_cases c : nxP o N now b < 0
    · rw [if_pos c, if_pos c]; exact ⟨rfl, h⟩
    · rw [if_neg c, if_neg c]
      by_cases c2 : 0 ≤ tags.getD (nxP o N now b).toNat 0
      · rw [if_pos c2, if_pos c2]
        exact oneGo_shift a u (i + 1) _ _ (i + 1) (a + i + 1) (.inr ⟨Nat.succ_ne_zero i, rfl⟩)
      · rw [if_neg c2, if_neg c2]
        exact oneGo_shift a u (i + 1) _ _ t t' h
/-- what look settles, one tells -/
theorem look_one {o : Of} {N : List (List Int)} {tags : List Int} (hg : PkGood o N tags) {full u m : List UInt8} {a : Nat} (hf : full.drop a = u ++ m) (h : (lookF o N tags u).2 = true) : u ≠ [] ∧ (oneF o N tags full a).1 = (lookF o N tags u).1.1 ∧ (((lookF o N tags u).1.2 = 0 ∧ (oneF o N tags full a).2 = 0) ∨ ((lookF o N tags u).1.2 ≠ 0 ∧ (oneF o N tags full a).2 = a + (lookF o N tags u).1.2)) := by
  have h : (decide (u ≠ []) && sureF o N 0 u) = true := h
  rw [Bool.and_eq_true, decide_eq_true_eq] at h
  refine ⟨h.1, ?_⟩
  unfold oneF
  rw [hf]
  have e := oneGo_more hg m u a 0 0 0 hg.pos h.2
  have e : oneGo o N tags (u ++ m) a 0 0 0 = oneGo o N tags u a 0 0 0 := e
  rw [e]
  exact oneGo_shift (o := o) (N := N) (tags := tags) a u 0 0 0 0 0 (.inl ⟨rfl, rfl⟩)
theorem drain_lex {o : Of} {N : List (List Int)} {tags : List Int} (hg : PkGood o N tags) {full m : List UInt8} : ∀ (f a : Nat) (u : List UInt8) (F : Nat), u.length < f → full.drop a = u ++ m → full.length < a + F →
    ((drainF o N tags f a u).2.2.2 = 9 → lexGo o N tags full F a = ((drainF o N tags f a u).1, (drainF o N tags f a u).2.1, 9)) ∧
    ((drainF o N tags f a u).2.2.2 = 0 → ∃ F', full.length < (drainF o N tags f a u).2.1 + F' ∧ lexGo o N tags full F a = ((drainF o N tags f a u).1 ++ (lexGo o N tags full F' (drainF o N tags f a u).2.1).1, (lexGo o N tags full F' (drainF o N tags f a u).2.1).2))
  | 0, _, _, _, h, _, _ => by omega
  | f + 1, a, u, F, h, hf, hF => by
    rw [drain_succ]
    by_cases c : (lookF o N tags u).2 = true
    · rw [if_pos c]
      obtain ⟨h1, h2, h3⟩ := look_one hg hf c
      have hlt : a < full.length := by
        have := congrArg List.length hf
        rw [List.length_drop, List.length_append] at this
        have := List.length_pos_iff.2 h1
        omega
      obtain ⟨F, rfl⟩ : ∃ F', F = F' + 1 := by
        cases F with
        | zero => omega
        | succ n => exact ⟨n, rfl⟩
      rw [lexGo_succ, if_pos hlt]
      by_cases c2 : (lookF o N tags u).1.2 = 0
      · rw [if_pos c2]
        have h4 := (h3.resolve_right fun h => h.1 c2).2
        rw [if_pos h4]
        exact ⟨fun _ => rfl, fun h => absurd (show (9 : Int) = 0 from h) (by decide)⟩
      · rw [if_neg c2]
        have h4 := (h3.resolve_left fun h => c2 h.1).2
        have hto := (lookF_to o N tags u).resolve_left c2
        rw [if_neg (by omega), h4, h2]
        have ih := drain_lex hg (full := full) (m := m) f (a + (lookF o N tags u).1.2) (u.drop (lookF o N tags u).1.2) F (by rw [List.length_drop]; omega) (by rw [← List.drop_drop, hf, List.drop_append_of_le_length hto.2]) (by omega)
        dsimp only
        refine ⟨fun h => ?_, fun h => ?_⟩
        · rw [ih.1 h]
        · obtain ⟨F', k1, k2⟩ := ih.2 h
          exact ⟨F', k1, by rw [k2]; rfl⟩
    · rw [if_neg c]
      exact ⟨fun h => absurd (show (0 : Int) = 9 from h) (by decide), fun _ => ⟨F, hF, rfl⟩⟩
/-- whatever comes later -/
theorem feed_lex {o : Of} {N : List (List Int)} {tags : List Int} (hg : PkGood o N tags) {full m : List UInt8} : ∀ (s : List UInt8) (a : Nat) (u : List UInt8) (F : Nat), full.drop a = u ++ (s ++ m) → full.length < a + F →
    ((feedGo o N tags s a u).2.2.2 = 9 → lexGo o N tags full F a = ((feedGo o N tags s a u).1, (feedGo o N tags s a u).2.1, 9)) ∧
    (∃ F', full.length < (feedGo o N tags s a u).2.1 + F' ∧ ((feedGo o N tags s a u).2.2.2 ≠ 9 → lexGo o N tags full F a = ((feedGo o N tags s a u).1 ++ (lexGo o N tags full F' (feedGo o N tags s a u).2.1).1, (lexGo o N tags full F' (feedGo o N tags s a u).2.1).2)))
  | [], a, u, F, hf, hF => ⟨fun h => absurd (show (0 : Int) = 9 from h) (by decide), F, hF, fun _ => rfl⟩
  | b :: s, a, u, F, hf, hF => by
    have hk := drain_keep (o := o) (N := N) (tags := tags) (u.length + 2) a (u ++ [b]) (by rw [List.length_append]; exact Nat.lt_succ_self _)
    have hd := drain_lex hg (full := full) (m := s ++ m) (u.length + 2) a (u ++ [b]) F (by rw [List.length_append]; exact Nat.lt_succ_self _) (by rw [hf]; simp) hF
    rw [feedGo_cons]
    generalize drainF o N tags (u.length + 2) a (u ++ [b]) = D at *
    obtain ⟨d1, d2, d3, d4⟩ := D
    dsimp only at hk hd ⊢
    obtain ⟨k1, k2, k3, k4⟩ := hk
    by_cases c1 : d4 ≠ 0
    · rw [if_pos c1]
      have h9 : d4 = 9 := k4.resolve_right fun h => c1 h.1
      exact ⟨fun _ => hd.1 h9, full.length + 1, by dsimp only; omega, fun h => absurd rfl h⟩
    · rw [if_neg c1]
      obtain ⟨F', k5, k6⟩ := hd.2 (by omega)
      by_cases c2 : 64 < d3.length
      · rw [if_pos c2]
        exact ⟨fun h => absurd (show (10 : Int) = 9 from h) (by decide), F', k5, fun _ => k6⟩
      · rw [if_neg c2]
        have hdrop : full.drop d2 = d3 ++ (s ++ m) := by
          have e1 : full.drop a = (u ++ [b]) ++ (s ++ m) := by rw [hf]; simp
          have e2 : d2 = a + (d2 - a) := by omega
          rw [e2, ← List.drop_drop, e1, List.drop_append_of_le_length (by omega), k3]
        obtain ⟨ih1, F2, ih2, ih3⟩ := feed_lex hg s d2 d3 F' hdrop k5
        dsimp only
        refine ⟨fun h => ?_, F2, ih2, fun h => ?_⟩
        · rw [k6, ih1 h]
        · rw [k6, ih3 h, List.append_assoc]
end Go.Proofs.Ytkmemlnkijinlaa.lexL

/- FeedP -/
namespace Go.Proofs.Ytkmemlnkijinlaa.lexL
open Go.RowKit kit mix eng smallL
/-- pieces one behind the other -/
theorem feedGo_app {o : Of} {N : List (List Int)} {tags : List Int} : ∀ (s t : List UInt8) (a : Nat) (u : List UInt8), feedGo o N tags (s ++ t) a u =
    if (feedGo o N tags s a u).2.2.2 ≠ 0 then feedGo o N tags s a u else ((feedGo o N tags s a u).1 ++ (feedGo o N tags t (feedGo o N tags s a u).2.1 (feedGo o N tags s a u).2.2.1).1, (feedGo o N tags t (feedGo o N tags s a u).2.1 (feedGo o N tags s a u).2.2.1).2)
  | [], t, a, u => by
    show feedGo o N tags t a u = if (0 : Int) ≠ 0 then _ else _
    rw [if_neg (by decide)]; rfl
  | b :: s, t, a, u => by
    rw [List.cons_append, feedGo_cons, feedGo_cons]
    generalize drainF o N tags (u.length + 2) a (u ++ [b]) = D at *
    by_cases c1 : D.2.2.2 ≠ 0
    · rw [if_pos c1, if_pos c1, if_pos (show (9 : Int) ≠ 0 by decide)]
    · rw [if_neg c1, if_neg c1]
      by_cases c2 : 64 < D.2.2.1.length
      · rw [if_pos c2, if_pos c2, if_pos (show (10 : Int) ≠ 0 by decide)]
      · rw [if_neg c2, if_neg c2]
        dsimp only
        rw [feedGo_app s t]
        by_cases c3 : (feedGo o N tags s D.2.1 D.2.2.1).2.2.2 ≠ 0
        · rw [if_pos c3, if_pos c3]
        · rw [if_neg c3, if_neg c3]
          dsimp only
          rw [List.append_assoc]
/-- the text has ended: what waits is told -/
def endF (o : Of) (N : List (List Int)) (tags : List Int) : Nat → Nat → List UInt8 → List Tok × Nat × Int
  | 0, a, _ => ([], a, 0)
  | f + 1, a, u => if u = [] then ([], a, 0) else if (lookF o N tags u).1.2 = 0 then ([], a, 9) else (((lookF o N tags u).1.1, a, a + (lookF o N tags u).1.2) :: (endF o N tags f (a + (lookF o N tags u).1.2) (u.drop (lookF o N tags u).1.2)).1, (endF o N tags f (a + (lookF o N tags u).1.2) (u.drop (lookF o N tags u).1.2)).2)
theorem end_succ (o : Of) (N : List (List Int)) (tags : List Int) (f a : Nat) (u : List UInt8) : endF o N tags (f + 1) a u = if u = [] then ([], a, 0) else if (lookF o N tags u).1.2 = 0 then ([], a, 9) else (((lookF o N tags u).1.1, a, a + (lookF o N tags u).1.2) :: (endF o N tags f (a + (lookF o N tags u).1.2) (u.drop (lookF o N tags u).1.2)).1, (endF o N tags f (a + (lookF o N tags u).1.2) (u.drop (lookF o N tags u).1.2)).2) := rfl
/-- what End tells is what Lex tells from there on -/
theorem end_lex {o : Of} {N : List (List Int)} {tags : List Int} {full : List UInt8} : ∀ (f a : Nat) (u : List UInt8) (F : Nat), u.length < f → full.drop a = u → a + u.length = full.length → full.length < a + F →
    ((endF o N tags f a u).2.2 = 9 ∧ lexGo o N tags full F a = ((endF o N tags f a u).1, (endF o N tags f a u).2.1, 9)) ∨ ((endF o N tags f a u).2 = (full.length, 0) ∧ lexGo o N tags full F a = ((endF o N tags f a u).1, 0, 0))
  | 0, _, _, _, h, _, _, _ => by omega
  | f + 1, a, u, F, h, hu, hl, hF => by
    obtain ⟨F, rfl⟩ : ∃ F', F = F' + 1 := ⟨F - 1, by omega⟩
    rw [end_succ, lexGo_succ]
    by_cases c1 : u = []
    · rw [if_pos c1]
      subst c1
      have : a = full.length := by simpa using hl
      rw [if_neg (by omega)]
      exact .inr ⟨by rw [this], rfl⟩
    · rw [if_neg c1]
      have hpos := List.length_pos_iff.2 c1
      rw [if_pos (show a < full.length by omega)]
      have e := oneGo_shift (o := o) (N := N) (tags := tags) a u 0 0 0 0 0 (.inl ⟨rfl, rfl⟩)
      have e1 : oneF o N tags full a = oneGo o N tags u (a + 0) 0 0 0 := by unfold oneF; rw [hu]; rfl
      rw [← e1] at e
      have e2 : oneGo o N tags u 0 0 0 0 = (lookF o N tags u).1 := rfl
      rw [e2] at e
      by_cases c2 : (lookF o N tags u).1.2 = 0
      · rw [if_pos c2]
        have h4 := (e.2.resolve_right fun h => h.1 c2).2
        rw [if_pos h4]
        exact .inl ⟨rfl, rfl⟩
      · rw [if_neg c2]
        have h4 := (e.2.resolve_left fun h => c2 h.1).2
        have hto := (lookF_to o N tags u).resolve_left c2
        have hdl : (u.drop (lookF o N tags u).1.2).length = u.length - (lookF o N tags u).1.2 := List.length_drop ..
        rw [if_neg (by omega), h4, e.1]
        rcases end_lex (full := full) f (a + (lookF o N tags u).1.2) (u.drop (lookF o N tags u).1.2) F (by omega) (by rw [← List.drop_drop, hu]) (by omega) (by omega) with ih | ih
        · exact .inl ⟨ih.1, by rw [ih.2]⟩
        · exact .inr ⟨ih.1, by rw [ih.2]⟩
/-- all of it: pieces that come, and the end -/
def fedF (o : Of) (N : List (List Int)) (tags : List Int) (s : List UInt8) : List Tok × Nat × Int × Int :=
  if (feedGo o N tags s 0 []).2.2.2 ≠ 0 then ((feedGo o N tags s 0 []).1, (feedGo o N tags s 0 []).2.1, (feedGo o N tags s 0 []).2.2.2, (feedGo o N tags s 0 []).2.2.2)
  else ((feedGo o N tags s 0 []).1 ++ (endF o N tags ((feedGo o N tags s 0 []).2.2.1.length + 1) (feedGo o N tags s 0 []).2.1 (feedGo o N tags s 0 []).2.2.1).1, (endF o N tags ((feedGo o N tags s 0 []).2.2.1.length + 1) (feedGo o N tags s 0 []).2.1 (feedGo o N tags s 0 []).2.2.1).2.1, if (endF o N tags ((feedGo o N tags s 0 []).2.2.1.length + 1) (feedGo o N tags s 0 []).2.1 (feedGo o N tags s 0 []).2.2.1).2.2 = 0 then 15 else 9, (endF o N tags ((feedGo o N tags s 0 []).2.2.1.length + 1) (feedGo o N tags s 0 []).2.1 (feedGo o N tags s 0 []).2.2.1).2.2)
/-! ### bounds -/
theorem drain_cnt {o : Of} {N : List (List Int)} {tags : List Int} : ∀ (f a : Nat) (u : List UInt8), (drainF o N tags f a u).1.length + a ≤ (drainF o N tags f a u).2.1
  | 0, a, _ => by show 0 + a ≤ a; omega
  | f + 1, a, u => by
    rw [drain_succ]
    by_cases c : (lookF o N tags u).2 = true
    · rw [if_pos c]
      by_cases c2 : (lookF o N tags u).1.2 = 0
      · rw [if_pos c2]; show 0 + a ≤ a; omega
      · rw [if_neg c2]
        have ih := drain_cnt (o := o) (N := N) (tags := tags) f (a + (lookF o N tags u).1.2) (u.drop (lookF o N tags u).1.2)
        dsimp only [List.length_cons]
        omega
    · rw [if_neg c]; show 0 + a ≤ a; omega
theorem feed_cnt {o : Of} {N : List (List Int)} {tags : List Int} : ∀ (s : List UInt8) (a : Nat) (u : List UInt8), (feedGo o N tags s a u).1.length + a ≤ (feedGo o N tags s a u).2.1 ∧ (feedGo o N tags s a u).2.1 + (feedGo o N tags s a u).2.2.1.length ≤ a + u.length + s.length
  | [], a, u => ⟨by show 0 + a ≤ a; omega, by show a + u.length ≤ a + u.length + 0; omega⟩
  | b :: s, a, u => by
    have h1 := drain_cnt (o := o) (N := N) (tags := tags) (u.length + 2) a (u ++ [b])
    have hk := drain_keep (o := o) (N := N) (tags := tags) (u.length + 2) a (u ++ [b]) (by rw [List.length_append]; exact Nat.lt_succ_self _)
    have hl : (u ++ [b]).length = u.length + 1 := by rw [List.length_append]; rfl
    rw [feedGo_cons]
    generalize drainF o N tags (u.length + 2) a (u ++ [b]) = D at *
    obtain ⟨d1, d2, d3, d4⟩ := D
    dsimp only at h1 hk ⊢
    rw [List.length_cons]
    rw [hl] at hk
    by_cases c1 : d4 ≠ 0
    · rw [if_pos c1]
      exact ⟨h1, by show d2 + 0 ≤ _; omega⟩
    · rw [if_neg c1]
      by_cases c2 : 64 < d3.length
      · rw [if_pos c2]
        exact ⟨h1, by show d2 + 0 ≤ _; omega⟩
      · rw [if_neg c2]
        have ih := feed_cnt (o := o) (N := N) (tags := tags) s d2 d3
        have h3 : d3.length = u.length + 1 - (d2 - a) := by rw [hk.2.2.1, List.length_drop, hl]
        dsimp only
        rw [List.length_append]
        omega
theorem end_cnt {o : Of} {N : List (List Int)} {tags : List Int} : ∀ (f a : Nat) (u : List UInt8), (endF o N tags f a u).1.length + a ≤ (endF o N tags f a u).2.1 ∧ (endF o N tags f a u).2.1 ≤ a + u.length ∧ ((endF o N tags f a u).2.2 = 0 ∨ (endF o N tags f a u).2.2 = 9)
  | 0, a, _ => ⟨by show 0 + a ≤ a; omega, by show a ≤ a + _; omega, .inl rfl⟩
  | f + 1, a, u => by
    rw [end_succ]
    by_cases c : u = []
    · rw [if_pos c]; exact ⟨by show 0 + a ≤ a; omega, by show a ≤ a + _; omega, .inl rfl⟩
    · rw [if_neg c]
      by_cases c2 : (lookF o N tags u).1.2 = 0
      · rw [if_pos c2]; exact ⟨by show 0 + a ≤ a; omega, by show a ≤ a + _; omega, .inr rfl⟩
      · rw [if_neg c2]
        have ih := end_cnt (o := o) (N := N) (tags := tags) f (a + (lookF o N tags u).1.2) (u.drop (lookF o N tags u).1.2)
        have hto := (lookF_to o N tags u).resolve_left c2
        rw [List.length_drop] at ih
        dsimp only [List.length_cons]
        exact ⟨by omega, by omega, ih.2.2⟩
end Go.Proofs.Ytkmemlnkijinlaa.lexL

/- FeedN -/
namespace Go.Proofs.Ytkmemlnkijinlaa.eng
open Go.RowKit kit mix smallL lexL
/-- what is told at the end -/
def endS (R : List Tok × Nat × Int) : Spec Value := ⟨fun _ => True, fun v => .tuple #[.agg (heldC (R.2.1 : Int) [] (if R.2.2 = 0 then 15 else 9)).toArray, v, .int .i64 R.2.2], fun v => [toksO v R.1]⟩
set_option maxHeartbeats 8000000 in
theorem feedEnd_calls (o : Of) (vn vt : Value) (N : List (List Int)) (tags : List Int) (a0 : Nat) (u0 : List UInt8) (w : World) (h : PkI w vn vt N tags) (hc : chkP o N tags = 0) (ho : ∀ b (h : b < 256), o[b] < 256) (ha0 : a0 ≤ 1099511627776) (hu0 : u0.length ≤ 64) :
    Calls Try.prog 18 #[pkV o vn vt, .agg (heldC (a0 : Int) u0 0).toArray] w (Meets (endS (endF o N tags (u0.length + 1) a0 u0)) w) := by
  have hck := fun w' (hg : Gr w w') => feedCheck_calls o vn vt N tags (a0 : Int) u0 0 w' (h.gr hg) ho (by omega)
  rw [chkH_ok hc ha0 hu0] at hck
  have hlook := fun (u : List UInt8) (hu : u.length ≤ 65) w' (hg : Gr w w') => look_calls o vn vt N tags u w' (h.gr hg) (chkP_good hc) (by omega)
  have hcut := fun a u r t w' (ha : a ≤ 9223372036854775) ht hu => cut_calls a u 0 r t w' ha ht hu
  have hbE := build_heldE
  obtain ⟨⟨an, cn, rfl, -⟩, at', ct, rfl, -⟩ := h
  refine enter (args := [pkV o (.slice an N.length cn) (.slice at' tags.length ct), .agg (heldC (a0 : Int) u0 0).toArray]) (n := 52) Try.func18 rfl rfl rfl ?_
  refine T_seq (T_region (TL_box rfl rfl rfl fun g2 => TL_box rfl rfl rfl fun g3 => TL_new rfl fun g4 => ?_))
  conv => arg 8; simp only [zA, zB, zC, zD, zE, zF, zG, zH, zI, rowS, ret, id_eq]
  repeat (first
    | refine qv rfl (qp rfl) rfl rfl ?_ | refine TL_nil ?_ | refine T_seq ?_ | refine T_region ?_ | refine qcT rfl ?_ | refine qcF rfl ?_ | refine T_skip ?_
    | refine T_exit ?_ | refine T_ret ?_ | refine T_block ?_ | refine E_then ?_ | refine E_thenX ?_ | refine E_thenR ?_ | refine E_blockN ?_
    | refine E_blockR ?_ | refine E_blockX ?_ | refine E_blockO rfl ?_ | refine qv rfl (rr_loadB (i := 0) TyC.ty rfl rfl (pk_size _ _ _)) rfl rfl ?_
    | refine qv rfl (rr_loadB (i := 1) TyC.ty rfl rfl rfl) rfl rfl ?_ | refine qv rfl (qfld FldC.fld rfl rfl) rfl rfl ?_
    | refine qv rfl (rr_eql rfl rfl (qT (by omega))) rfl rfl ?_ | refine qv rfl (rr_eql rfl rfl (qF (by omega))) rfl rfl ?_
    | refine qv rfl (rr_neq rfl rfl (qT (by omega))) rfl rfl ?_ | refine qv rfl (rr_neq rfl rfl (qF (by omega))) rfl rfl ?_)
  refine TL_call (he2 EntersC.en rfl rfl rfl) (fun w hm => hck _ hm.below) rfl rfl rfl ?_
  intro _ _
  conv => arg 8; simp only [zA, zB, zC, zD, zE, zF, zG, zH, zI, rowS, ret, id_eq]
  clear hck
  repeat (first
    | refine qv rfl (qp rfl) rfl rfl ?_ | refine TL_nil ?_ | refine T_seq ?_ | refine T_region ?_ | refine qcT rfl ?_ | refine qcF rfl ?_ | refine T_skip ?_
    | refine T_exit ?_ | refine T_ret ?_ | refine T_block ?_ | refine E_then ?_ | refine E_thenX ?_ | refine E_thenR ?_ | refine E_blockN ?_
    | refine E_blockR ?_ | refine E_blockX ?_ | refine E_blockO rfl ?_ | refine qv rfl (rr_neq (b := false) rfl rfl (decide_eq_false (by decide))) rfl rfl ?_
    | refine qv rfl (qfld FldC.fld rfl rfl) rfl rfl ?_ | refine qv rfl (rr_eql rfl rfl (qT (by omega))) rfl rfl ?_
    | refine qv rfl (rr_eql rfl rfl (qF (by omega))) rfl rfl ?_ | refine qv rfl (rr_neq rfl rfl (qT (by omega))) rfl rfl ?_
    | refine qv rfl (rr_neq rfl rfl (qF (by omega))) rfl rfl ?_)
  refine T_nil 36 3 ?_
  conv => arg 7; simp only [zA, zB, zC, zD, zE, zF, zG, zH, zI, rowS, ret, id_eq]
  generalize hfin : endF o N tags (u0.length + 1) a0 u0 = fin
  refine T_loop (ι := Nat × Nat × List UInt8 × List Tok × Value) (fun (f, a, u, out, _) => u.length < f ∧ u.length ≤ 64 ∧ a + u.length ≤ 1099511627840 ∧ out.length ≤ a ∧ (out ++ (endF o N tags f a u).1, (endF o N tags f a u).2) = fin) (fun (_, _, _, _, v) => [(2, .pointer (some ⟨g2, 0, none⟩)), (3, .pointer (some ⟨g3, 0, none⟩)), (4, .pointer (some ⟨g4, 0, none⟩)), (8, v)])
    (fun (_, a, u, out, v) => [blkO g2 (pkC o (.slice an N.length cn) (.slice at' tags.length ct)).toArray 26, blkO g3 (heldC (a : Int) u 0).toArray 30, blkO g4 (heldC 0 [] 0).toArray 30, toksO v out]) (fun (f, _, _, _, _) => f) (u0.length + 1, a0, u0, [], .slice none 0 0) ⟨Nat.lt_succ_self _, hu0, by show a0 + u0.length ≤ _; omega, Nat.zero_le _, by rw [hfin]; rfl⟩ (by repeat' (first | exact True.intro | refine And.intro rfl ?_)) rfl ?_
  clear hfin
  rintro ⟨f, a, u, out, v⟩ ⟨j1, j2, j3, j4, j5⟩
  dsimp only at j1 j2 j3 j4 j5 ⊢
  obtain ⟨f, rfl⟩ : ∃ f', f = f' + 1 := ⟨f - 1, by omega⟩
  rw [end_succ] at j5
  by_cases c1 : u = []
  · rw [if_pos c1] at j5
    have j5 : (out ++ [], a, (0 : Int)) = fin := j5
    rw [List.append_nil] at j5
    subst j5
    repeat (first
      | refine qv rfl (qp rfl) rfl rfl ?_ | refine TL_nil ?_ | refine T_seq ?_ | refine T_region ?_ | refine qcT rfl ?_ | refine qcF rfl ?_ | refine T_skip ?_
      | refine T_exit ?_ | refine T_ret ?_ | refine T_block ?_ | refine E_then ?_ | refine E_thenX ?_ | refine E_thenR ?_ | refine E_blockN ?_
      | refine E_blockR ?_ | refine E_blockX ?_ | refine E_blockO rfl ?_
      | refine qv rfl (rr_load1 (v := str u) TyC.ty rfl (at_blk (i := 1) rfl rfl)) rfl rfl ?_
      | refine qv rfl (rr_strne (b := false) rfl rfl (decide_eq_false (fun h => h c1))) rfl rfl ?_
      | refine qv rfl (rr_load1 (v := .int .i64 (a : Int)) TyC.ty rfl (at_blk (i := 1) rfl rfl)) rfl rfl ?_ | refine qv rfl (rr_build rfl (hbE _ _)) rfl rfl ?_
      | refine qv rfl (qfld FldC.fld rfl rfl) rfl rfl ?_ | refine qv rfl (rr_eql rfl rfl (qT (by omega))) rfl rfl ?_
      | refine qv rfl (rr_eql rfl rfl (qF (by omega))) rfl rfl ?_ | refine qv rfl (rr_neq rfl rfl (qT (by omega))) rfl rfl ?_
      | refine qv rfl (rr_neq rfl rfl (qF (by omega))) rfl rfl ?_)
    refine TL_storeB (i := 2) (cs' := (heldC (a : Int) [] 15).toArray) rfl rfl rfl rfl rfl rfl ?_
    conv => arg 8; simp only [zA, zB, zC, zD, zE, zF, zG, zH, zI, rowS, ret, id_eq]
    repeat (first
      | refine qv rfl (qp rfl) rfl rfl ?_ | refine TL_nil ?_ | refine T_seq ?_ | refine T_region ?_ | refine qcT rfl ?_ | refine qcF rfl ?_ | refine T_skip ?_
      | refine T_exit ?_ | refine T_ret ?_ | refine T_block ?_ | refine E_then ?_ | refine E_thenX ?_ | refine E_thenR ?_ | refine E_blockN ?_
      | refine E_blockR ?_ | refine E_blockX ?_ | refine E_blockO rfl ?_ | refine qv rfl (qfld FldC.fld rfl rfl) rfl rfl ?_
      | refine qv rfl (rr_eql rfl rfl (qT (by omega))) rfl rfl ?_ | refine qv rfl (rr_eql rfl rfl (qF (by omega))) rfl rfl ?_
      | refine qv rfl (rr_neq rfl rfl (qT (by omega))) rfl rfl ?_ | refine qv rfl (rr_neq rfl rfl (qF (by omega))) rfl rfl ?_)
    exact E_retc3 (i := 2) rfl rfl rfl rfl rfl rfl fun w hm => hm.meets (S := endS (out, a, 0)) v trivial [3] (by decide) rfl
  · rw [if_neg c1] at j5
    have hto := lookF_to o N tags u
    have hlk := hlook u (by omega)
    generalize lookF o N tags u = lk at *
    obtain ⟨⟨r, t⟩, sr⟩ := lk
    dsimp only at hto hlk j5
    repeat (first
      | refine qv rfl (qp rfl) rfl rfl ?_ | refine TL_nil ?_ | refine T_seq ?_ | refine T_region ?_ | refine qcT rfl ?_ | refine qcF rfl ?_ | refine T_skip ?_
      | refine T_exit ?_ | refine T_ret ?_ | refine T_block ?_ | refine E_then ?_ | refine E_thenX ?_ | refine E_thenR ?_ | refine E_blockN ?_
      | refine E_blockR ?_ | refine E_blockX ?_ | refine E_blockO rfl ?_
      | refine qv rfl (rr_load1 (v := str u) TyC.ty rfl (at_blk (i := 1) rfl rfl)) rfl rfl ?_
      | refine qv rfl (rr_strne (b := true) rfl rfl (decide_eq_true c1)) rfl rfl ?_
      | refine qv rfl (rr_loadB (i := 0) TyC.ty rfl rfl (pk_size _ _ _)) rfl rfl ?_ | refine qv rfl (qfld FldC.fld rfl rfl) rfl rfl ?_
      | refine qv rfl (rr_eql rfl rfl (qT (by omega))) rfl rfl ?_ | refine qv rfl (rr_eql rfl rfl (qF (by omega))) rfl rfl ?_
      | refine qv rfl (rr_neq rfl rfl (qT (by omega))) rfl rfl ?_ | refine qv rfl (rr_neq rfl rfl (qF (by omega))) rfl rfl ?_)
    refine TL_call (he2 EntersC.en rfl rfl rfl) (fun w hm => hlk _ hm.below) rfl rfl rfl ?_
    intro _ _
    conv => arg 8; simp only [zA, zB, zC, zD, zE, zF, zG, zH, zI, rowS, ret, id_eq]
    by_cases c2 : t = 0
    · rw [if_pos c2] at j5
      have j5 : (out ++ [], a, (9 : Int)) = fin := j5
      rw [List.append_nil] at j5
      subst j5 c2
      clear hlk
      repeat (first
        | refine qv rfl (qp rfl) rfl rfl ?_ | refine TL_nil ?_ | refine T_seq ?_ | refine T_region ?_ | refine qcT rfl ?_ | refine qcF rfl ?_ | refine T_skip ?_
        | refine T_exit ?_ | refine T_ret ?_ | refine T_block ?_ | refine E_then ?_ | refine E_thenX ?_ | refine E_thenR ?_ | refine E_blockN ?_
        | refine E_blockR ?_ | refine E_blockX ?_ | refine E_blockO rfl ?_ | refine qv rfl (rr_eql (b := true) rfl rfl (decide_eq_true rfl)) rfl rfl ?_
        | refine qv rfl (rr_load1 (v := .int .i64 (a : Int)) TyC.ty rfl (at_blk (i := 1) rfl rfl)) rfl rfl ?_ | refine qv rfl (rr_build rfl (hbE _ _)) rfl rfl ?_
        | refine qv rfl (qfld FldC.fld rfl rfl) rfl rfl ?_ | refine qv rfl (rr_eql rfl rfl (qT (by omega))) rfl rfl ?_
        | refine qv rfl (rr_eql rfl rfl (qF (by omega))) rfl rfl ?_ | refine qv rfl (rr_neq rfl rfl (qT (by omega))) rfl rfl ?_
        | refine qv rfl (rr_neq rfl rfl (qF (by omega))) rfl rfl ?_)
      refine TL_storeB (i := 2) (cs' := (heldC (a : Int) [] 9).toArray) rfl rfl rfl rfl rfl rfl ?_
      conv => arg 8; simp only [zA, zB, zC, zD, zE, zF, zG, zH, zI, rowS, ret, id_eq]
      repeat (first
        | refine qv rfl (qp rfl) rfl rfl ?_ | refine TL_nil ?_ | refine T_seq ?_ | refine T_region ?_ | refine qcT rfl ?_ | refine qcF rfl ?_ | refine T_skip ?_
        | refine T_exit ?_ | refine T_ret ?_ | refine T_block ?_ | refine E_then ?_ | refine E_thenX ?_ | refine E_thenR ?_ | refine E_blockN ?_
        | refine E_blockR ?_ | refine E_blockX ?_ | refine E_blockO rfl ?_ | refine qv rfl (qfld FldC.fld rfl rfl) rfl rfl ?_
        | refine qv rfl (rr_eql rfl rfl (qT (by omega))) rfl rfl ?_ | refine qv rfl (rr_eql rfl rfl (qF (by omega))) rfl rfl ?_
        | refine qv rfl (rr_neq rfl rfl (qT (by omega))) rfl rfl ?_ | refine qv rfl (rr_neq rfl rfl (qF (by omega))) rfl rfl ?_)
      exact E_retc3 (i := 2) rfl rfl rfl rfl rfl rfl fun w hm => hm.meets (S := endS (out, a, 9)) v trivial [3] (by decide) rfl
    · rw [if_neg c2] at j5
      have ht := hto.resolve_left c2
      have hct := hcut a u r t
      have hdl : (u.drop t).length = u.length - t := List.length_drop ..
      clear hlk hlook hcut
      repeat (first
        | refine qv rfl (qp rfl) rfl rfl ?_ | refine TL_nil ?_ | refine T_seq ?_ | refine T_region ?_ | refine qcT rfl ?_ | refine qcF rfl ?_ | refine T_skip ?_
        | refine T_exit ?_ | refine T_ret ?_ | refine T_block ?_ | refine E_then ?_ | refine E_thenX ?_ | refine E_thenR ?_ | refine E_blockN ?_
        | refine E_blockR ?_ | refine E_blockX ?_ | refine E_blockO rfl ?_ | refine qv rfl (rr_eql (b := false) rfl rfl (decide_eq_false (by omega))) rfl rfl ?_
        | refine qv rfl (qfld FldC.fld rfl rfl) rfl rfl ?_ | refine qv rfl (rr_eql rfl rfl (qT (by omega))) rfl rfl ?_
        | refine qv rfl (rr_eql rfl rfl (qF (by omega))) rfl rfl ?_ | refine qv rfl (rr_neq rfl rfl (qT (by omega))) rfl rfl ?_
        | refine qv rfl (rr_neq rfl rfl (qF (by omega))) rfl rfl ?_)
      refine TL_new rfl fun g15 => ?_
      conv => arg 8; simp only [zA, zB, zC, zD, zE, zF, zG, zH, zI, rowS, ret, id_eq]
      repeat (first
        | refine qv rfl (qp rfl) rfl rfl ?_ | refine TL_nil ?_ | refine T_seq ?_ | refine T_region ?_ | refine qcT rfl ?_ | refine qcF rfl ?_ | refine T_skip ?_
        | refine T_exit ?_ | refine T_ret ?_ | refine T_block ?_ | refine E_then ?_ | refine E_thenX ?_ | refine E_thenR ?_ | refine E_blockN ?_
        | refine E_blockR ?_ | refine E_blockX ?_ | refine E_blockO rfl ?_ | refine qv rfl (rr_loadB (i := 1) TyC.ty rfl rfl rfl) rfl rfl ?_
        | refine qv rfl (qfld FldC.fld rfl rfl) rfl rfl ?_ | refine qv rfl (rr_eql rfl rfl (qT (by omega))) rfl rfl ?_
        | refine qv rfl (rr_eql rfl rfl (qF (by omega))) rfl rfl ?_ | refine qv rfl (rr_neq rfl rfl (qT (by omega))) rfl rfl ?_
        | refine qv rfl (rr_neq rfl rfl (qF (by omega))) rfl rfl ?_)
      refine TL_call (he3 EntersC.en rfl rfl rfl rfl) (fun w hm => hct w (by omega) ht.2 (by omega)) rfl rfl rfl ?_
      intro _ _
      conv => arg 8; simp only [zA, zB, zC, zD, zE, zF, zG, zH, zI, rowS, ret, id_eq]
      repeat (first
        | refine qv rfl (qp rfl) rfl rfl ?_ | refine TL_nil ?_ | refine T_seq ?_ | refine T_region ?_ | refine qcT rfl ?_ | refine qcF rfl ?_ | refine T_skip ?_
        | refine T_exit ?_ | refine T_ret ?_ | refine T_block ?_ | refine E_then ?_ | refine E_thenX ?_ | refine E_thenR ?_ | refine E_blockN ?_
        | refine E_blockR ?_ | refine E_blockX ?_ | refine E_blockO rfl ?_ | refine qv rfl (qfld FldC.fld rfl rfl) rfl rfl ?_
        | refine qv rfl (rr_eql rfl rfl (qT (by omega))) rfl rfl ?_ | refine qv rfl (rr_eql rfl rfl (qF (by omega))) rfl rfl ?_
        | refine qv rfl (rr_neq rfl rfl (qT (by omega))) rfl rfl ?_ | refine qv rfl (rr_neq rfl rfl (qF (by omega))) rfl rfl ?_)
      refine TL_storeB (i := 1) (cs' := (heldC ((a + t : Nat) : Int) (u.drop t) 0).toArray) rfl rfl rfl rfl rfl rfl ?_
      conv => arg 8; simp only [zA, zB, zC, zD, zE, zF, zG, zH, zI, rowS, ret, id_eq]
      repeat (first
        | refine qv rfl (qp rfl) rfl rfl ?_ | refine TL_nil ?_ | refine T_seq ?_ | refine T_region ?_ | refine qcT rfl ?_ | refine qcF rfl ?_ | refine T_skip ?_
        | refine T_exit ?_ | refine T_ret ?_ | refine T_block ?_ | refine E_then ?_ | refine E_thenX ?_ | refine E_thenR ?_ | refine E_blockN ?_
        | refine E_blockR ?_ | refine E_blockX ?_ | refine E_blockO rfl ?_ | refine qv rfl (qfld FldC.fld rfl rfl) rfl rfl ?_
        | refine qv rfl (rr_eql rfl rfl (qT (by omega))) rfl rfl ?_ | refine qv rfl (rr_eql rfl rfl (qF (by omega))) rfl rfl ?_
        | refine qv rfl (rr_neq rfl rfl (qT (by omega))) rfl rfl ?_ | refine qv rfl (rr_neq rfl rfl (qF (by omega))) rfl rfl ?_)
      refine TL_storeB (i := 4) (cs' := (tokC (r, a, a + t)).toArray) rfl rfl rfl rfl rfl rfl ?_
      conv => arg 8; simp only [zA, zB, zC, zD, zE, zF, zG, zH, zI, rowS, ret, id_eq]
      repeat (first
        | refine qv rfl (qp rfl) rfl rfl ?_ | refine TL_nil ?_ | refine T_seq ?_ | refine T_region ?_ | refine qcT rfl ?_ | refine qcF rfl ?_ | refine T_skip ?_
        | refine T_exit ?_ | refine T_ret ?_ | refine T_block ?_ | refine E_then ?_ | refine E_thenX ?_ | refine E_thenR ?_ | refine E_blockN ?_
        | refine E_blockR ?_ | refine E_blockX ?_ | refine E_blockO rfl ?_ | refine qv rfl (rr_loadB (i := 4) TyC.ty rfl rfl rfl) rfl rfl ?_
        | refine qv rfl (qfld FldC.fld rfl rfl) rfl rfl ?_ | refine qv rfl (rr_eql rfl rfl (qT (by omega))) rfl rfl ?_
        | refine qv rfl (rr_eql rfl rfl (qF (by omega))) rfl rfl ?_ | refine qv rfl (rr_neq rfl rfl (qT (by omega))) rfl rfl ?_
        | refine qv rfl (rr_neq rfl rfl (qF (by omega))) rfl rfl ?_)
      refine TL_pushN (i := 3) rfl rfl rfl rfl rfl rfl rfl (fun z h => by cases h; rfl) (by omega) (by omega) rfl fun z v2 => ?_
      conv => arg 8; simp only [zA, zB, zC, zD, zE, zF, zG, zH, zI, rowS, ret, id_eq]
      repeat (first
        | refine qv rfl (qp rfl) rfl rfl ?_ | refine TL_nil ?_ | refine T_seq ?_ | refine T_region ?_ | refine qcT rfl ?_ | refine qcF rfl ?_ | refine T_skip ?_
        | refine T_exit ?_ | refine T_ret ?_ | refine T_block ?_ | refine E_then ?_ | refine E_thenX ?_ | refine E_thenR ?_ | refine E_blockN ?_
        | refine E_blockR ?_ | refine E_blockX ?_ | refine E_blockO rfl ?_ | refine qv rfl (qfld FldC.fld rfl rfl) rfl rfl ?_
        | refine qv rfl (rr_eql rfl rfl (qT (by omega))) rfl rfl ?_ | refine qv rfl (rr_eql rfl rfl (qF (by omega))) rfl rfl ?_
        | refine qv rfl (rr_neq rfl rfl (qT (by omega))) rfl rfl ?_ | refine qv rfl (rr_neq rfl rfl (qF (by omega))) rfl rfl ?_)
      refine E_pick [0, 1, 2, 3] (by decide) rfl ?_
      exact E_round (f, a + t, u.drop t, out ++ [(r, a, a + t)], v2) ⟨by show (u.drop t).length < f; omega, by show (u.drop t).length ≤ 64; omega, by show a + t + (u.drop t).length ≤ 1099511627840; omega, by show (out ++ [(r, a, a + t)]).length ≤ a + t; rw [List.length_append]; simp; omega, by rw [List.append_assoc]; exact j5⟩ (by show f < f + 1; omega) (by repeat' (first | exact True.intro | refine And.intro rfl ?_)) (by dsimp only; rw [toks_snoc]; rfl)
end Go.Proofs.Ytkmemlnkijinlaa.eng

/- DfM -/
namespace Go.Proofs.Ytkmemlnkijinlaa.eng
open Go.RowKit kit mix classL rexL placesL dfaP smallL
/-- what Make answers -/
def outD (m : MS) : List Row × List Int × Int := match makeD m with
  | some (R, d) => (R, d.tags, 0)
  | none => ([], [], 8)
def mkdSp (m : MS) : Spec (Value × Value) := ⟨fun _ => True, fun x => .tuple #[dfaV x.1 x.2, .int .i64 (outD m).2.2], fun x => [rowO 96 256 x.1 (outD m).1.length ((outD m).1.flatMap rowC), intR x.2 (outD m).2.1]⟩
theorem outD_0 {m : MS} {R : List Row} {d : DM} (h : makeD m = some (R, d)) : outD m = (R, d.tags, 0) := by unfold outD; rw [h]
theorem outD_8 {m : MS} (h : makeD m = none) : outD m = ([], [], 8) := by unfold outD; rw [h]
theorem make_step (m : MS) (f n : Nat) (R : List Row) (d : DM) : makeTo m (f + 1) n R d = if n < d.S.length + 1 then (if 200 < (rowP m n d).2.S.length + 1 then none else makeTo m f (n + 1) (R ++ [(rowP m n d).1]) (rowP m n d).2) else some (R, d) := rfl
theorem build_dfaz (w : World) : (Instr.build 55 (#[] : Array (Nat × Value))).run Try.prog w = .ok (.agg #[.slice none 0 0, .slice none 0 0]) w := by kernel_rfl
theorem build_dm (vc vr vf vfol vl ve : Value) (g gm : Nat) (w : World) : (Instr.build 112 #[(0, .agg #[vc, vr, vf, vfol, vl, ve]), (1, .slice (some ⟨g, 0, none⟩) 1 1), (2, .map (some gm))]).run Try.prog w = .ok (.agg (dmC vc vr vf vfol vl ve (.slice (some ⟨g, 0, none⟩) 1 1) (.map (some gm)) (.slice none 0 0) (.slice none 0 0))) w := by
  unfold dmC; go_simp
theorem row_set1 {g : Nat} {w : World} (h : (blkO g (madeCells #[Value.int .u64 0, Value.int .u64 0, Value.int .u64 0, Value.int .u64 0] (1 * 4)) 119).holds w) : (setsO (.slice (some ⟨g, 0, none⟩) 1 1) []).holds w := by
  rw [madeC (k := 4) rfl (by decide)] at h
  exact ⟨rfl, .inr ⟨g, 1, _, rfl, Nat.zero_le _, h, Nat.le_refl _, by decide, rfl, rfl⟩⟩
theorem row_snocR (v : Value) (R : List Row) (r : Row) : rowO 96 256 v (R ++ [r]).length ((R ++ [r]).flatMap rowC) = rowO 96 256 v (R.length + 1) (R.flatMap rowC ++ rowC r) := by
  rw [List.length_append, List.flatMap_append]; simp
theorem dmc_at {vc vr vf vfol vl ve vs num rows tags v : Value} {j : Nat} (h : [rows, tags][j]? = some v) : (dmC vc vr vf vfol vl ve vs num rows tags)[8 + j]? = some v := by
  match j, h with
  | 0, h => exact h
  | 1, h => exact h
theorem row_lit (r : Row) : (rowC r).toArray = ([rowV r].flatMap fun v => v.cells.toList).toArray := by
  show _ = ((rowC r).toArray.toList ++ []).toArray
  simp
theorem row_litn (r : Row) : ∀ v ∈ [rowV r], v.cells.size = 256 := by
  intro v hv
  rw [List.mem_singleton.1 hv]
  show (rowC r).toArray.size = 256
  rw [List.size_toArray, rowC_len]
set_option maxRecDepth 100000 in
set_option maxHeartbeats 8000000 in
theorem dfaMake_calls (v : Value) (m : MS) (w : World) (hp : PosR w v m) (h : MOkP m) :
    Calls Try.prog 34 #[v] w (Meets (mkdSp m) w) := by
  have hck := fun w' (hg : Gr w w') => posCheck_calls v m w' (hp.gr hg) h
  obtain ⟨vc, vr, vf, vfol, vl, ve, rfl, h1, h2, h3, h4, h5, h6⟩ := id hp
  have hrw := fun rows d g gm n vs vt hd hd2 hn w' B ho hm => dfaRow_calls m vc vr vf vfol vl ve rows d g gm n vs vt w hp h hd hd2 hn w' B ho hm
  clear h1 h2 h3 h4 h5 hp
  have hms := h.some
  have hmm := h.most
  clear h
  obtain ⟨ae, ce, rfl, -, hme, hre⟩ := h6
  unfold maxLen at hme
  have hbz := build_dfaz
  refine enter (args := [.agg #[vc, vr, vf, vfol, vl, .slice ae m.empty.length ce]]) (n := 78) Try.func34 rfl rfl rfl ?_
  refine T_seq (T_region (TL_box rfl rfl rfl fun g1 => TL_new rfl fun g2 => ?_))
  conv => arg 8; simp only [zA, zB, zC, zD, zE, zF, zG, zH, zI, rowS, ret, id_eq]
  repeat (first
    | refine qv rfl (qp rfl) rfl rfl ?_ | refine TL_nil ?_ | refine T_seq ?_ | refine T_region ?_ | refine qcT rfl ?_ | refine qcF rfl ?_ | refine T_skip ?_
    | refine T_exit ?_ | refine T_ret ?_ | refine T_block ?_ | refine E_then ?_ | refine E_thenX ?_ | refine E_thenR ?_ | refine E_blockN ?_
    | refine E_blockR ?_ | refine E_blockX ?_ | refine E_blockO rfl ?_ | refine qv rfl (rr_loadB (i := 0) TyC.ty rfl rfl rfl) rfl rfl ?_
    | refine qv rfl (qlen Und.eq rfl) rfl rfl ?_ | refine qv rfl (qfld FldC.fld rfl rfl) rfl rfl ?_ | refine qv rfl (rr_nilc rfl) rfl rfl ?_
    | refine qv rfl (rr_lss rfl rfl (qT (by omega))) rfl rfl ?_ | refine qv rfl (rr_lss rfl rfl (qF (by omega))) rfl rfl ?_
    | refine qv rfl (rr_gtr rfl rfl (qT (by omega))) rfl rfl ?_ | refine qv rfl (rr_gtr rfl rfl (qF (by omega))) rfl rfl ?_
    | refine qv rfl (rr_geq rfl rfl (qT (by omega))) rfl rfl ?_ | refine qv rfl (rr_geq rfl rfl (qF (by omega))) rfl rfl ?_
    | refine qv rfl (rr_neq rfl rfl (qT (by omega))) rfl rfl ?_ | refine qv rfl (rr_neq rfl rfl (qF (by omega))) rfl rfl ?_
    | refine qv rfl (rr_add64 rfl rfl (by omega) (by omega) rfl) rfl rfl ?_ | refine qv rfl (rr_sub64 rfl rfl (by omega) (by omega) rfl) rfl rfl ?_)
  refine TL_call (he1 EntersC.en rfl rfl) (fun w hm => hck _ hm.below) rfl rfl rfl ?_
  intro _ _
  conv => arg 8; simp only [zA, zB, zC, zD, zE, zF, zG, zH, zI, rowS, ret, id_eq]
  clear hck
  repeat (first
    | refine qv rfl (qp rfl) rfl rfl ?_ | refine TL_nil ?_ | refine T_seq ?_ | refine T_region ?_ | refine qcT rfl ?_ | refine qcF rfl ?_ | refine T_skip ?_
    | refine T_exit ?_ | refine T_ret ?_ | refine T_block ?_ | refine E_then ?_ | refine E_thenX ?_ | refine E_thenR ?_ | refine E_blockN ?_
    | refine E_blockR ?_ | refine E_blockX ?_ | refine E_blockO rfl ?_ | refine qv rfl (rr_neq (b := false) rfl rfl (decide_eq_false (by simp))) rfl rfl ?_
    | refine qv rfl (qlen Und.eq rfl) rfl rfl ?_ | refine qv rfl (qfld FldC.fld rfl rfl) rfl rfl ?_ | refine qv rfl (rr_nilc rfl) rfl rfl ?_
    | refine qv rfl (rr_lss rfl rfl (qT (by omega))) rfl rfl ?_ | refine qv rfl (rr_lss rfl rfl (qF (by omega))) rfl rfl ?_
    | refine qv rfl (rr_gtr rfl rfl (qT (by omega))) rfl rfl ?_ | refine qv rfl (rr_gtr rfl rfl (qF (by omega))) rfl rfl ?_
    | refine qv rfl (rr_geq rfl rfl (qT (by omega))) rfl rfl ?_ | refine qv rfl (rr_geq rfl rfl (qF (by omega))) rfl rfl ?_
    | refine qv rfl (rr_neq rfl rfl (qT (by omega))) rfl rfl ?_ | refine qv rfl (rr_neq rfl rfl (qF (by omega))) rfl rfl ?_
    | refine qv rfl (rr_add64 rfl rfl (by omega) (by omega) rfl) rfl rfl ?_ | refine qv rfl (rr_sub64 rfl rfl (by omega) (by omega) rfl) rfl rfl ?_)
  (repeat refine T_seq ?_)
  refine T_midq (ι := Nat × Nat × Nat) (fun _ => True) (fun (_, _, g5) => [(1, .pointer (some ⟨g1, 0, none⟩)), (2, .pointer (some ⟨g2, 0, none⟩)), (5, .pointer (some ⟨g5, 0, none⟩))])
    (fun (gs, gm, g5) => [blkO g1 #[vc, vr, vf, vfol, vl, .slice ae m.empty.length ce] 84, blkO g2 #[.slice none 0 0, .slice none 0 0] 55, blkO g5 (dmC vc vr vf vfol vl (.slice ae m.empty.length ce) (.slice (some ⟨gs, 0, none⟩) 1 1) (.map (some gm)) (.slice none 0 0) (.slice none 0 0)) 112, setsO (.slice (some ⟨gs, 0, none⟩) 1 1) [], numO gm []]) ?_ ?_
  · refine T_ord ([blkO g1 #[vc, vr, vf, vfol, vl, .slice ae m.empty.length ce] 84]) (.calm 0 (.two 1 (.one 2 (.calm 3 (.one 4 (.calm 5 (.done))))) 2 (.one 1 (.calm 3 (.one 4 (.calm 5 (.done))))))) (sub_pick [0] (by decide) rfl) (by kernel_rfl) (by kernel_rfl) (by intro c a d v w h; cases d <;> exact h) ?_
    repeat (first
      | ((first | refine TW_plain rfl rfl ?_ | refine TW_gmet rfl rfl rfl rfl ?_); first | refine TN_val (qp rfl) rfl rfl ?_ | refine TN_val (rr_loadB (i := 0) TyC.ty rfl rfl rfl) rfl rfl ?_ | refine TN_val (qlen Und.eq rfl) rfl rfl ?_ | refine TN_val (qfld FldC.fld rfl rfl) rfl rfl ?_ | refine TN_val (rr_nilc rfl) rfl rfl ?_ | refine TN_val (rr_lss rfl rfl (qT (by omega))) rfl rfl ?_ | refine TN_val (rr_lss rfl rfl (qF (by omega))) rfl rfl ?_ | refine TN_val (rr_gtr rfl rfl (qT (by omega))) rfl rfl ?_ | refine TN_val (rr_gtr rfl rfl (qF (by omega))) rfl rfl ?_ | refine TN_val (rr_geq rfl rfl (qT (by omega))) rfl rfl ?_ | refine TN_val (rr_geq rfl rfl (qF (by omega))) rfl rfl ?_ | refine TN_val (rr_neq rfl rfl (qT (by omega))) rfl rfl ?_ | refine TN_val (rr_neq rfl rfl (qF (by omega))) rfl rfl ?_ | refine TN_val (rr_add64 rfl rfl (by omega) (by omega) rfl) rfl rfl ?_ | refine TN_val (rr_sub64 rfl rfl (by omega) (by omega) rfl) rfl rfl ?_)
      | refine TW_done ?_)
    refine TW_two rfl rfl ?_ ?_
    · refine TL_makeB (m := 1) (cap := 1) rfl rfl (Nat.le_refl 1) (by decide) (by decide) rfl fun gs => TW_on (sub_pick [0] (by decide) rfl) ?_
      refine TW_one rfl (TL_map setK rfl fun gm => TW_on (sub_pick [0] (by decide) rfl) ?_)
      repeat (first
        | ((first | refine TW_plain rfl rfl ?_ | refine TW_gmet rfl rfl rfl rfl ?_); first | refine TN_val (qp rfl) rfl rfl ?_ | refine TN_val (rr_build rfl (build_dm _ _ _ _ _ _ _ _)) rfl rfl ?_ | refine TN_val (qlen Und.eq rfl) rfl rfl ?_ | refine TN_val (qfld FldC.fld rfl rfl) rfl rfl ?_ | refine TN_val (rr_nilc rfl) rfl rfl ?_ | refine TN_val (rr_lss rfl rfl (qT (by omega))) rfl rfl ?_ | refine TN_val (rr_lss rfl rfl (qF (by omega))) rfl rfl ?_ | refine TN_val (rr_gtr rfl rfl (qT (by omega))) rfl rfl ?_ | refine TN_val (rr_gtr rfl rfl (qF (by omega))) rfl rfl ?_ | refine TN_val (rr_geq rfl rfl (qT (by omega))) rfl rfl ?_ | refine TN_val (rr_geq rfl rfl (qF (by omega))) rfl rfl ?_ | refine TN_val (rr_neq rfl rfl (qT (by omega))) rfl rfl ?_ | refine TN_val (rr_neq rfl rfl (qF (by omega))) rfl rfl ?_ | refine TN_val (rr_add64 rfl rfl (by omega) (by omega) rfl) rfl rfl ?_ | refine TN_val (rr_sub64 rfl rfl (by omega) (by omega) rfl) rfl rfl ?_)
        | refine TW_done ?_)
      refine TW_one rfl (TL_box rfl rfl rfl fun g5 => TW_on (sub_pick [0] (by decide) rfl) ?_)
      repeat (first
        | ((first | refine TW_plain rfl rfl ?_ | refine TW_gmet rfl rfl rfl rfl ?_); first | refine TN_val (qp rfl) rfl rfl ?_ | refine TN_val (qlen Und.eq rfl) rfl rfl ?_ | refine TN_val (qfld FldC.fld rfl rfl) rfl rfl ?_ | refine TN_val (rr_nilc rfl) rfl rfl ?_ | refine TN_val (rr_lss rfl rfl (qT (by omega))) rfl rfl ?_ | refine TN_val (rr_lss rfl rfl (qF (by omega))) rfl rfl ?_ | refine TN_val (rr_gtr rfl rfl (qT (by omega))) rfl rfl ?_ | refine TN_val (rr_gtr rfl rfl (qF (by omega))) rfl rfl ?_ | refine TN_val (rr_geq rfl rfl (qT (by omega))) rfl rfl ?_ | refine TN_val (rr_geq rfl rfl (qF (by omega))) rfl rfl ?_ | refine TN_val (rr_neq rfl rfl (qT (by omega))) rfl rfl ?_ | refine TN_val (rr_neq rfl rfl (qF (by omega))) rfl rfl ?_ | refine TN_val (rr_add64 rfl rfl (by omega) (by omega) rfl) rfl rfl ?_ | refine TN_val (rr_sub64 rfl rfl (by omega) (by omega) rfl) rfl rfl ?_)
        | refine TW_done ?_)
      refine E_reown (i := 2) (setsO (.slice (some ⟨gs, 0, none⟩) 1 1) []) rfl (fun w h => row_set1 h) (fun k h => h) ?_
      refine E_reown (i := 3) (numO gm []) rfl (fun w h => by unfold numO; rw [← mapAt1_nil]; exact h) (fun k h => h) ?_
      refine E_pick [0, 1, 4, 2, 3] (by decide) rfl ?_
      exact E_mid (gs, gm, g5) trivial (by repeat' (first | exact True.intro | refine And.intro rfl ?_)) rfl
    · refine TL_map setK rfl fun gm => TW_on (sub_pick [0] (by decide) rfl) ?_
      refine TW_one rfl (TL_makeB (m := 1) (cap := 1) rfl rfl (Nat.le_refl 1) (by decide) (by decide) rfl fun gs => TW_on (sub_pick [0] (by decide) rfl) ?_)
      repeat (first
        | ((first | refine TW_plain rfl rfl ?_ | refine TW_gmet rfl rfl rfl rfl ?_); first | refine TN_val (qp rfl) rfl rfl ?_ | refine TN_val (rr_build rfl (build_dm _ _ _ _ _ _ _ _)) rfl rfl ?_ | refine TN_val (qlen Und.eq rfl) rfl rfl ?_ | refine TN_val (qfld FldC.fld rfl rfl) rfl rfl ?_ | refine TN_val (rr_nilc rfl) rfl rfl ?_ | refine TN_val (rr_lss rfl rfl (qT (by omega))) rfl rfl ?_ | refine TN_val (rr_lss rfl rfl (qF (by omega))) rfl rfl ?_ | refine TN_val (rr_gtr rfl rfl (qT (by omega))) rfl rfl ?_ | refine TN_val (rr_gtr rfl rfl (qF (by omega))) rfl rfl ?_ | refine TN_val (rr_geq rfl rfl (qT (by omega))) rfl rfl ?_ | refine TN_val (rr_geq rfl rfl (qF (by omega))) rfl rfl ?_ | refine TN_val (rr_neq rfl rfl (qT (by omega))) rfl rfl ?_ | refine TN_val (rr_neq rfl rfl (qF (by omega))) rfl rfl ?_ | refine TN_val (rr_add64 rfl rfl (by omega) (by omega) rfl) rfl rfl ?_ | refine TN_val (rr_sub64 rfl rfl (by omega) (by omega) rfl) rfl rfl ?_)
        | refine TW_done ?_)
      refine TW_one rfl (TL_box rfl rfl rfl fun g5 => TW_on (sub_pick [0] (by decide) rfl) ?_)
      repeat (first
        | ((first | refine TW_plain rfl rfl ?_ | refine TW_gmet rfl rfl rfl rfl ?_); first | refine TN_val (qp rfl) rfl rfl ?_ | refine TN_val (qlen Und.eq rfl) rfl rfl ?_ | refine TN_val (qfld FldC.fld rfl rfl) rfl rfl ?_ | refine TN_val (rr_nilc rfl) rfl rfl ?_ | refine TN_val (rr_lss rfl rfl (qT (by omega))) rfl rfl ?_ | refine TN_val (rr_lss rfl rfl (qF (by omega))) rfl rfl ?_ | refine TN_val (rr_gtr rfl rfl (qT (by omega))) rfl rfl ?_ | refine TN_val (rr_gtr rfl rfl (qF (by omega))) rfl rfl ?_ | refine TN_val (rr_geq rfl rfl (qT (by omega))) rfl rfl ?_ | refine TN_val (rr_geq rfl rfl (qF (by omega))) rfl rfl ?_ | refine TN_val (rr_neq rfl rfl (qT (by omega))) rfl rfl ?_ | refine TN_val (rr_neq rfl rfl (qF (by omega))) rfl rfl ?_ | refine TN_val (rr_add64 rfl rfl (by omega) (by omega) rfl) rfl rfl ?_ | refine TN_val (rr_sub64 rfl rfl (by omega) (by omega) rfl) rfl rfl ?_)
        | refine TW_done ?_)
      refine E_reown (i := 3) (setsO (.slice (some ⟨gs, 0, none⟩) 1 1) []) rfl (fun w h => row_set1 h) (fun k h => h) ?_
      refine E_reown (i := 2) (numO gm []) rfl (fun w h => by unfold numO; rw [← mapAt1_nil]; exact h) (fun k h => h) ?_
      refine E_pick [0, 1, 4, 3, 2] (by decide) rfl ?_
      exact E_mid (gs, gm, g5) trivial (by repeat' (first | exact True.intro | refine And.intro rfl ?_)) rfl
  rintro ⟨gs, gm, g5⟩ _
  dsimp only
  repeat (first
    | refine qv rfl (qp rfl) rfl rfl ?_ | refine TL_nil ?_ | refine T_seq ?_ | refine T_region ?_ | refine qcT rfl ?_ | refine qcF rfl ?_ | refine T_skip ?_
    | refine T_exit ?_ | refine T_ret ?_ | refine T_block ?_ | refine E_then ?_ | refine E_thenX ?_ | refine E_thenR ?_ | refine E_blockN ?_
    | refine E_blockR ?_ | refine E_blockX ?_ | refine E_blockO rfl ?_ | refine qv rfl (qlen Und.eq rfl) rfl rfl ?_
    | refine qv rfl (qfld FldC.fld rfl rfl) rfl rfl ?_ | refine qv rfl (rr_nilc rfl) rfl rfl ?_ | refine qv rfl (rr_lss rfl rfl (qT (by omega))) rfl rfl ?_
    | refine qv rfl (rr_lss rfl rfl (qF (by omega))) rfl rfl ?_ | refine qv rfl (rr_gtr rfl rfl (qT (by omega))) rfl rfl ?_
    | refine qv rfl (rr_gtr rfl rfl (qF (by omega))) rfl rfl ?_ | refine qv rfl (rr_geq rfl rfl (qT (by omega))) rfl rfl ?_
    | refine qv rfl (rr_geq rfl rfl (qF (by omega))) rfl rfl ?_ | refine qv rfl (rr_neq rfl rfl (qT (by omega))) rfl rfl ?_
    | refine qv rfl (rr_neq rfl rfl (qF (by omega))) rfl rfl ?_ | refine qv rfl (rr_add64 rfl rfl (by omega) (by omega) rfl) rfl rfl ?_
    | refine qv rfl (rr_sub64 rfl rfl (by omega) (by omega) rfl) rfl rfl ?_)
  refine TL_litN (cs := #[.int .i64 (-1)]) [.int .i64 (-1)] rfl rfl rfl (by intro v hv; simp at hv; subst hv; rfl) rfl rfl rfl fun g20 => ?_
  conv => arg 8; simp only [zA, zB, zC, zD, zE, zF, zG, zH, zI, rowS, ret, id_eq]
  repeat (first
    | refine qv rfl (qp rfl) rfl rfl ?_ | refine TL_nil ?_ | refine T_seq ?_ | refine T_region ?_ | refine qcT rfl ?_ | refine qcF rfl ?_ | refine T_skip ?_
    | refine T_exit ?_ | refine T_ret ?_ | refine T_block ?_ | refine E_then ?_ | refine E_thenX ?_ | refine E_thenR ?_ | refine E_blockN ?_
    | refine E_blockR ?_ | refine E_blockX ?_ | refine E_blockO rfl ?_ | refine qv rfl (rr_nilc rfl) rfl rfl ?_ | refine qv rfl (qlen Und.eq rfl) rfl rfl ?_
    | refine qv rfl (qfld FldC.fld rfl rfl) rfl rfl ?_ | refine qv rfl (rr_nilc rfl) rfl rfl ?_ | refine qv rfl (rr_lss rfl rfl (qT (by omega))) rfl rfl ?_
    | refine qv rfl (rr_lss rfl rfl (qF (by omega))) rfl rfl ?_ | refine qv rfl (rr_gtr rfl rfl (qT (by omega))) rfl rfl ?_
    | refine qv rfl (rr_gtr rfl rfl (qF (by omega))) rfl rfl ?_ | refine qv rfl (rr_geq rfl rfl (qT (by omega))) rfl rfl ?_
    | refine qv rfl (rr_geq rfl rfl (qF (by omega))) rfl rfl ?_ | refine qv rfl (rr_neq rfl rfl (qT (by omega))) rfl rfl ?_
    | refine qv rfl (rr_neq rfl rfl (qF (by omega))) rfl rfl ?_ | refine qv rfl (rr_add64 rfl rfl (by omega) (by omega) rfl) rfl rfl ?_
    | refine qv rfl (rr_sub64 rfl rfl (by omega) (by omega) rfl) rfl rfl ?_)
  refine TL_store1 (i := 2) rfl rfl rfl rfl rfl rfl ?_
  conv => arg 8; simp only [zA, zB, zC, zD, zE, zF, zG, zH, zI, rowS, ret, id_eq]
  repeat (first
    | refine qv rfl (qp rfl) rfl rfl ?_ | refine TL_nil ?_ | refine T_seq ?_ | refine T_region ?_ | refine qcT rfl ?_ | refine qcF rfl ?_ | refine T_skip ?_
    | refine T_exit ?_ | refine T_ret ?_ | refine T_block ?_ | refine E_then ?_ | refine E_thenX ?_ | refine E_thenR ?_ | refine E_blockN ?_
    | refine E_blockR ?_ | refine E_blockX ?_ | refine E_blockO rfl ?_
    | refine qv rfl (rr_load1 (v := .slice ae m.empty.length ce) TyC.ty rfl (at_blk (i := 0) rfl rfl)) rfl rfl ?_
    | refine qv rfl (rr_sub64 (r := (m.empty.length : Int) - 1) rfl rfl (by omega) (by omega) rfl) rfl rfl ?_ | refine qv rfl (qlen Und.eq rfl) rfl rfl ?_
    | refine qv rfl (qfld FldC.fld rfl rfl) rfl rfl ?_ | refine qv rfl (rr_nilc rfl) rfl rfl ?_ | refine qv rfl (rr_lss rfl rfl (qT (by omega))) rfl rfl ?_
    | refine qv rfl (rr_lss rfl rfl (qF (by omega))) rfl rfl ?_ | refine qv rfl (rr_gtr rfl rfl (qT (by omega))) rfl rfl ?_
    | refine qv rfl (rr_gtr rfl rfl (qF (by omega))) rfl rfl ?_ | refine qv rfl (rr_geq rfl rfl (qT (by omega))) rfl rfl ?_
    | refine qv rfl (rr_geq rfl rfl (qF (by omega))) rfl rfl ?_ | refine qv rfl (rr_neq rfl rfl (qT (by omega))) rfl rfl ?_
    | refine qv rfl (rr_neq rfl rfl (qF (by omega))) rfl rfl ?_ | refine qv rfl (rr_add64 rfl rfl (by omega) (by omega) rfl) rfl rfl ?_
    | refine qv rfl (rr_sub64 rfl rfl (by omega) (by omega) rfl) rfl rfl ?_)
  refine T_loop (ι := Nat) (fun k => k ≤ m.empty.length) (fun k => [(1, .pointer (some ⟨g1, 0, none⟩)), (2, .pointer (some ⟨g2, 0, none⟩)), (5, .pointer (some ⟨g5, 0, none⟩)), (6, .int .i64 ((k : Int) - 1))])
    (fun k => [blkO g1 #[vc, vr, vf, vfol, vl, .slice ae m.empty.length ce] 84, blkO g2 #[.slice none 0 0, .slice none 0 0] 55, blkO g5 (dmC vc vr vf vfol vl (.slice ae m.empty.length ce) (.slice (some ⟨gs, 0, none⟩) 1 1) (.map (some gm)) (.slice none 0 0) (.slice (some ⟨g20, 0, none⟩) 1 1)) 112, setsO (.slice (some ⟨gs, 0, none⟩) 1 1) [], numO gm [], blkO g20 #[.int .i64 (firstT (m.empty.drop k) k)] 3]) (fun k => k) m.empty.length (Nat.le_refl _) (by repeat' (first | exact True.intro | refine And.intro rfl ?_)) (by rw [List.drop_eq_nil_of_le (Nat.le_refl _)]; rfl) ?_
  intro k hk
  by_cases c1 : 0 < k
  · obtain ⟨j, rfl⟩ : ∃ j, k = j + 1 := ⟨k - 1, by omega⟩
    have hj : j < m.empty.length := by omega
    obtain ⟨be, offe, rfl, hred⟩ := hre (by omega)
    have hate := fun (L : List Own) => at_el (L := L) BoE_len hred hj 0 _ rfl
    have hst : firstT (m.empty.drop j) j = if m.empty[j] = true then (j : Int) else firstT (m.empty.drop (j + 1)) ((j : Int) + 1) := by rw [List.drop_eq_getElem_cons hj, firstT]
    rw [show (((j + 1 : Nat) : Int)) = (j : Int) + 1 by omega] at *
    generalize firstT (m.empty.drop (j + 1)) ((j : Int) + 1) = t at *
    generalize m.empty[j] = b at *
    rw [show (j : Int) + 1 - 1 = (j : Int) by omega]
    have hate' : ∀ (L : List Own), At (w : Base) L ⟨be, offe + j * 1 + 0, none⟩ (.bool b) := hate
    by_cases c2 : b = true
    · subst c2
      rw [if_pos rfl] at hst
      repeat (first
        | refine qv rfl (qp rfl) rfl rfl ?_ | refine TL_nil ?_ | refine T_seq ?_ | refine T_region ?_ | refine qcT rfl ?_ | refine qcF rfl ?_ | refine T_skip ?_
        | refine T_exit ?_ | refine T_ret ?_ | refine T_block ?_ | refine E_then ?_ | refine E_thenX ?_ | refine E_thenR ?_ | refine E_blockN ?_
        | refine E_blockR ?_ | refine E_blockX ?_ | refine E_blockO rfl ?_ | refine qv rfl (rr_geq (b := true) rfl rfl (decide_eq_true (by omega))) rfl rfl ?_
        | refine qv rfl (rr_load1 (v := .slice (some ⟨be, offe, none⟩) m.empty.length ce) TyC.ty rfl (at_blk (i := 0) rfl rfl)) rfl rfl ?_
        | refine qv rfl (rr_idxc Und.eq TyC.ty rfl rfl hj) rfl rfl ?_ | refine qv rfl (rr_load1 (v := .bool true) TyC.ty rfl (hate' _)) rfl rfl ?_
        | refine qv rfl (rr_nilc rfl) rfl rfl ?_
        | refine qv rfl (rr_load1 (v := .slice (some ⟨g20, 0, none⟩) 1 1) TyC.ty rfl (at_blk (i := 2) rfl rfl)) rfl rfl ?_
        | refine qv rfl (rr_idxc (j := 0) Und.eq TyC.ty rfl rfl (by decide)) rfl rfl ?_ | refine qv rfl (qlen Und.eq rfl) rfl rfl ?_
        | refine qv rfl (qfld FldC.fld rfl rfl) rfl rfl ?_ | refine qv rfl (rr_nilc rfl) rfl rfl ?_ | refine qv rfl (rr_lss rfl rfl (qT (by omega))) rfl rfl ?_
        | refine qv rfl (rr_lss rfl rfl (qF (by omega))) rfl rfl ?_ | refine qv rfl (rr_gtr rfl rfl (qT (by omega))) rfl rfl ?_
        | refine qv rfl (rr_gtr rfl rfl (qF (by omega))) rfl rfl ?_ | refine qv rfl (rr_geq rfl rfl (qT (by omega))) rfl rfl ?_
        | refine qv rfl (rr_geq rfl rfl (qF (by omega))) rfl rfl ?_ | refine qv rfl (rr_neq rfl rfl (qT (by omega))) rfl rfl ?_
        | refine qv rfl (rr_neq rfl rfl (qF (by omega))) rfl rfl ?_ | refine qv rfl (rr_add64 rfl rfl (by omega) (by omega) rfl) rfl rfl ?_
        | refine qv rfl (rr_sub64 rfl rfl (by omega) (by omega) rfl) rfl rfl ?_)
      refine TL_store1 (i := 5) rfl rfl rfl rfl rfl rfl ?_
      conv => arg 8; simp only [zA, zB, zC, zD, zE, zF, zG, zH, zI, rowS, ret, id_eq]
      repeat (first
        | refine qv rfl (qp rfl) rfl rfl ?_ | refine TL_nil ?_ | refine T_seq ?_ | refine T_region ?_ | refine qcT rfl ?_ | refine qcF rfl ?_ | refine T_skip ?_
        | refine T_exit ?_ | refine T_ret ?_ | refine T_block ?_ | refine E_then ?_ | refine E_thenX ?_ | refine E_thenR ?_ | refine E_blockN ?_
        | refine E_blockR ?_ | refine E_blockX ?_ | refine E_blockO rfl ?_
        | refine qv rfl (rr_sub64 (r := (j : Int) - 1) rfl rfl (by omega) (by omega) rfl) rfl rfl ?_ | refine qv rfl (qlen Und.eq rfl) rfl rfl ?_
        | refine qv rfl (qfld FldC.fld rfl rfl) rfl rfl ?_ | refine qv rfl (rr_nilc rfl) rfl rfl ?_ | refine qv rfl (rr_lss rfl rfl (qT (by omega))) rfl rfl ?_
        | refine qv rfl (rr_lss rfl rfl (qF (by omega))) rfl rfl ?_ | refine qv rfl (rr_gtr rfl rfl (qT (by omega))) rfl rfl ?_
        | refine qv rfl (rr_gtr rfl rfl (qF (by omega))) rfl rfl ?_ | refine qv rfl (rr_geq rfl rfl (qT (by omega))) rfl rfl ?_
        | refine qv rfl (rr_geq rfl rfl (qF (by omega))) rfl rfl ?_ | refine qv rfl (rr_neq rfl rfl (qT (by omega))) rfl rfl ?_
        | refine qv rfl (rr_neq rfl rfl (qF (by omega))) rfl rfl ?_ | refine qv rfl (rr_add64 rfl rfl (by omega) (by omega) rfl) rfl rfl ?_
        | refine qv rfl (rr_sub64 rfl rfl (by omega) (by omega) rfl) rfl rfl ?_)
      exact E_round j (by omega) (by show j < j + 1; omega) (by repeat' (first | exact True.intro | refine And.intro rfl ?_)) (by rw [hst]; rfl)
    · rw [if_neg c2] at hst
      obtain rfl := Bool.eq_false_iff.2 c2
      repeat (first
        | refine qv rfl (qp rfl) rfl rfl ?_ | refine TL_nil ?_ | refine T_seq ?_ | refine T_region ?_ | refine qcT rfl ?_ | refine qcF rfl ?_ | refine T_skip ?_
        | refine T_exit ?_ | refine T_ret ?_ | refine T_block ?_ | refine E_then ?_ | refine E_thenX ?_ | refine E_thenR ?_ | refine E_blockN ?_
        | refine E_blockR ?_ | refine E_blockX ?_ | refine E_blockO rfl ?_ | refine qv rfl (rr_geq (b := true) rfl rfl (decide_eq_true (by omega))) rfl rfl ?_
        | refine qv rfl (rr_load1 (v := .slice (some ⟨be, offe, none⟩) m.empty.length ce) TyC.ty rfl (at_blk (i := 0) rfl rfl)) rfl rfl ?_
        | refine qv rfl (rr_idxc Und.eq TyC.ty rfl rfl hj) rfl rfl ?_ | refine qv rfl (rr_load1 (v := .bool false) TyC.ty rfl (hate' _)) rfl rfl ?_
        | refine qv rfl (rr_sub64 (r := (j : Int) - 1) rfl rfl (by omega) (by omega) rfl) rfl rfl ?_ | refine qv rfl (qlen Und.eq rfl) rfl rfl ?_
        | refine qv rfl (qfld FldC.fld rfl rfl) rfl rfl ?_ | refine qv rfl (rr_nilc rfl) rfl rfl ?_ | refine qv rfl (rr_lss rfl rfl (qT (by omega))) rfl rfl ?_
        | refine qv rfl (rr_lss rfl rfl (qF (by omega))) rfl rfl ?_ | refine qv rfl (rr_gtr rfl rfl (qT (by omega))) rfl rfl ?_
        | refine qv rfl (rr_gtr rfl rfl (qF (by omega))) rfl rfl ?_ | refine qv rfl (rr_geq rfl rfl (qT (by omega))) rfl rfl ?_
        | refine qv rfl (rr_geq rfl rfl (qF (by omega))) rfl rfl ?_ | refine qv rfl (rr_neq rfl rfl (qT (by omega))) rfl rfl ?_
        | refine qv rfl (rr_neq rfl rfl (qF (by omega))) rfl rfl ?_ | refine qv rfl (rr_add64 rfl rfl (by omega) (by omega) rfl) rfl rfl ?_
        | refine qv rfl (rr_sub64 rfl rfl (by omega) (by omega) rfl) rfl rfl ?_)
      exact E_round j (by omega) (by show j < j + 1; omega) (by repeat' (first | exact True.intro | refine And.intro rfl ?_)) (by rw [hst])
  · obtain rfl : k = 0 := by omega
    rw [show firstT (m.empty.drop 0) ((0 : Nat) : Int) = firstT m.empty 0 from rfl]
    have hfin : makeTo m (201 - 0) 0 [] ⟨[], [firstT m.empty 0]⟩ = makeD m := rfl
    generalize firstT m.empty 0 = t0 at *
    refine T_reown (i := 5) (intR (.slice (some ⟨g20, 0, none⟩) 1 1) [t0]) rfl (fun w h => one_row h) (fun k h => h) ?_
    repeat (first
      | refine qv rfl (qp rfl) rfl rfl ?_ | refine TL_nil ?_ | refine T_seq ?_ | refine T_region ?_ | refine qcT rfl ?_ | refine qcF rfl ?_ | refine T_skip ?_
      | refine T_exit ?_ | refine T_ret ?_ | refine T_block ?_ | refine E_then ?_ | refine E_thenX ?_ | refine E_thenR ?_ | refine E_blockN ?_
      | refine E_blockR ?_ | refine E_blockX ?_ | refine E_blockO rfl ?_ | refine qv rfl (rr_geq (b := false) rfl rfl (decide_eq_false (by omega))) rfl rfl ?_
      | refine qv rfl (qlen Und.eq rfl) rfl rfl ?_ | refine qv rfl (qfld FldC.fld rfl rfl) rfl rfl ?_ | refine qv rfl (rr_nilc rfl) rfl rfl ?_
      | refine qv rfl (rr_lss rfl rfl (qT (by omega))) rfl rfl ?_ | refine qv rfl (rr_lss rfl rfl (qF (by omega))) rfl rfl ?_
      | refine qv rfl (rr_gtr rfl rfl (qT (by omega))) rfl rfl ?_ | refine qv rfl (rr_gtr rfl rfl (qF (by omega))) rfl rfl ?_
      | refine qv rfl (rr_geq rfl rfl (qT (by omega))) rfl rfl ?_ | refine qv rfl (rr_geq rfl rfl (qF (by omega))) rfl rfl ?_
      | refine qv rfl (rr_neq rfl rfl (qT (by omega))) rfl rfl ?_ | refine qv rfl (rr_neq rfl rfl (qF (by omega))) rfl rfl ?_
      | refine qv rfl (rr_add64 rfl rfl (by omega) (by omega) rfl) rfl rfl ?_ | refine qv rfl (rr_sub64 rfl rfl (by omega) (by omega) rfl) rfl rfl ?_)
    refine T_nil 96 256 ?_
    refine T_pick [1, 2, 3, 4, 5, 6] (by decide) rfl ?_
    clear hre
    refine T_loop (ι := Nat × List Row × DM × Value × Value × Value) (fun (n, R, d, _, _, _) => R.length = n ∧ n ≤ d.S.length + 1 ∧ DOk m.ps d ∧ d.S.length + 1 ≤ 200 ∧ makeTo m (201 - n) n R d = makeD m) (fun (n, _, _, _, _, _) => [(2, .pointer (some ⟨g2, 0, none⟩)), (5, .pointer (some ⟨g5, 0, none⟩)), (7, .int .i64 (n : Int))])
      (fun (_, R, d, vs, vrows, vt) => [blkO g2 #[.slice none 0 0, .slice none 0 0] 55, blkO g5 (dmC vc vr vf vfol vl (.slice ae m.empty.length ce) vs (.map (some gm)) vrows vt) 112, setsO vs d.S, numO gm d.S, intR vt d.tags, rowO 96 256 vrows R.length (R.flatMap rowC)]) (fun (n, _, _, _, _, _) => 201 - n) (0, [], ⟨[], [t0]⟩, .slice (some ⟨gs, 0, none⟩) 1 1, .slice none 0 0, .slice (some ⟨g20, 0, none⟩) 1 1) ⟨rfl, Nat.zero_le _, ⟨List.nodup_nil, rfl⟩, by show 0 + 1 ≤ 200; omega, hfin⟩ (by repeat' (first | exact True.intro | refine And.intro rfl ?_)) rfl ?_
    clear hfin hk c1
    rintro ⟨n, R, d, vs, vrows, vt⟩ ⟨i0, i1, i2, i3, i4⟩
    dsimp only at i0 i1 i2 i3 i4 ⊢
    refine T_know (i := 2) rfl row_slm fun hrow => ?_
    obtain ⟨ab, cs, rfl, hmS, -⟩ := hrow
    by_cases c1 : n < d.S.length + 1
    · rw [show 201 - n = (201 - (n + 1)) + 1 by omega, make_step, if_pos c1] at i4
      obtain ⟨s1, s2, s3⟩ := rowTo_ok (p := m.ps) (nextF m d.S n) 256 0 (Vector.replicate 256 0) d i2 i3
      have hcall := fun w' (hm' : Mem (w : Base) [blkO g2 #[.slice none 0 0, .slice none 0 0] 55, blkO g5 (dmC vc vr vf vfol vl (.slice ae m.empty.length ce) (.slice ab (d.S.length + 1) cs) (.map (some gm)) vrows vt) 112, setsO (.slice ab (d.S.length + 1) cs) d.S, numO gm d.S, intR vt d.tags, rowO 96 256 vrows R.length (R.flatMap rowC)] w') (hb : Mem (Base.on w' (dmL vc vr vf vfol vl (.slice ae m.empty.length ce) vrows g5 gm (.slice ab (d.S.length + 1) cs) vt d)) (dmL vc vr vf vfol vl (.slice ae m.empty.length ce) vrows g5 gm (.slice ab (d.S.length + 1) cs) vt d) w') => hrw vrows d g5 gm n (.slice ab (d.S.length + 1) cs) vt i2 i3 (by omega) w' _ ((Old.self w).on hm' (by simp [dmL])) hb
      rw [show rowTo m.ps (nextF m d.S n) 256 0 (Vector.replicate 256 0) d = rowP m n d from rfl] at s1 s2 s3
      obtain ⟨r', d', hrp⟩ : ∃ r' d', rowP m n d = (r', d') := ⟨_, _, rfl⟩
      rw [hrp] at i4 s1 s2 s3
      dsimp only at i4 s1 s2 s3
      repeat (first
        | refine qv rfl (qp rfl) rfl rfl ?_ | refine TL_nil ?_ | refine T_seq ?_ | refine T_region ?_ | refine qcT rfl ?_ | refine qcF rfl ?_ | refine T_skip ?_
        | refine T_exit ?_ | refine T_ret ?_ | refine T_block ?_ | refine E_then ?_ | refine E_thenX ?_ | refine E_thenR ?_ | refine E_blockN ?_
        | refine E_blockR ?_ | refine E_blockX ?_ | refine E_blockO rfl ?_ | refine qv rfl (rr_nilc rfl) rfl rfl ?_
        | refine qv rfl (rr_load1 (v := .slice ab (d.S.length + 1) cs) TyC.ty rfl (at_blk (i := 1) rfl rfl)) rfl rfl ?_
        | refine qv rfl (rr_lss (b := true) rfl rfl (decide_eq_true (by omega))) rfl rfl ?_ | refine qv rfl (qlen Und.eq rfl) rfl rfl ?_
        | refine qv rfl (qfld FldC.fld rfl rfl) rfl rfl ?_ | refine qv rfl (rr_nilc rfl) rfl rfl ?_ | refine qv rfl (rr_lss rfl rfl (qT (by omega))) rfl rfl ?_
        | refine qv rfl (rr_lss rfl rfl (qF (by omega))) rfl rfl ?_ | refine qv rfl (rr_gtr rfl rfl (qT (by omega))) rfl rfl ?_
        | refine qv rfl (rr_gtr rfl rfl (qF (by omega))) rfl rfl ?_ | refine qv rfl (rr_geq rfl rfl (qT (by omega))) rfl rfl ?_
        | refine qv rfl (rr_geq rfl rfl (qF (by omega))) rfl rfl ?_ | refine qv rfl (rr_neq rfl rfl (qT (by omega))) rfl rfl ?_
        | refine qv rfl (rr_neq rfl rfl (qF (by omega))) rfl rfl ?_ | refine qv rfl (rr_add64 rfl rfl (by omega) (by omega) rfl) rfl rfl ?_
        | refine qv rfl (rr_sub64 rfl rfl (by omega) (by omega) rfl) rfl rfl ?_)
      (repeat refine T_seq ?_)
      refine T_midq (ι := Value × Value × Value) (fun _ => True) (fun _ => [(2, .pointer (some ⟨g2, 0, none⟩)), (5, .pointer (some ⟨g5, 0, none⟩)), (7, .int .i64 (n : Int))])
        (fun (vs', vrows', vt') => [blkO g2 #[.slice none 0 0, .slice none 0 0] 55, blkO g5 (dmC vc vr vf vfol vl (.slice ae m.empty.length ce) vs' (.map (some gm)) vrows' vt') 112, setsO vs' d'.S, numO gm d'.S, intR vt' d'.tags, rowO 96 256 vrows' (R ++ [r']).length ((R ++ [r']).flatMap rowC)]) ?_ ?_
      · refine T_ord ([]) (.calm 0 (.calm 1 (.calm 2 (.calm 3 (.calm 4 (.calm 6 (.calm 7 (.two 5 (.one 8 (.one 9 (.one 10 (.calm 11 (.calm 12 (.calm 13 (.one 14 (.done)))))))) 8 (.two 5 (.one 9 (.one 10 (.calm 11 (.calm 12 (.calm 13 (.one 14 (.done))))))) 9 (.one 5 (.one 10 (.calm 11 (.calm 12 (.calm 13 (.one 14 (.done)))))))))))))))) (sub_pick [] (by decide) rfl) (by kernel_rfl) (by kernel_rfl) (by intro c a d v w h; cases d <;> exact h) ?_
        repeat (first
          | ((first | refine TW_plain rfl rfl ?_ | refine TW_gmet rfl rfl rfl rfl ?_); first | refine TN_val (qp rfl) rfl rfl ?_ | refine TN_val (rr_nilc rfl) rfl rfl ?_ | refine TN_val (qlen Und.eq rfl) rfl rfl ?_ | refine TN_val (qfld FldC.fld rfl rfl) rfl rfl ?_ | refine TN_val (rr_nilc rfl) rfl rfl ?_ | refine TN_val (rr_lss rfl rfl (qT (by omega))) rfl rfl ?_ | refine TN_val (rr_lss rfl rfl (qF (by omega))) rfl rfl ?_ | refine TN_val (rr_gtr rfl rfl (qT (by omega))) rfl rfl ?_ | refine TN_val (rr_gtr rfl rfl (qF (by omega))) rfl rfl ?_ | refine TN_val (rr_geq rfl rfl (qT (by omega))) rfl rfl ?_ | refine TN_val (rr_geq rfl rfl (qF (by omega))) rfl rfl ?_ | refine TN_val (rr_neq rfl rfl (qT (by omega))) rfl rfl ?_ | refine TN_val (rr_neq rfl rfl (qF (by omega))) rfl rfl ?_ | refine TN_val (rr_add64 rfl rfl (by omega) (by omega) rfl) rfl rfl ?_ | refine TN_val (rr_sub64 rfl rfl (by omega) (by omega) rfl) rfl rfl ?_)
          | refine TW_done ?_)
        refine TW_two rfl rfl ?_ ?_
        · refine TL_val (rr_load1 (v := vrows) TyC.ty rfl (at_blk (i := 1) rfl rfl)) rfl rfl rfl (TW_on (sub_pick [] (by decide) rfl) ?_)
          refine TW_one rfl (TL_callB [1, 2, 3, 4] [0, 5] (by decide) rfl rfl (he2 EntersC.en rfl rfl rfl) (fun w' hm hb => hcall w' hm hb) rfl rfl rfl ?_)
          rintro ⟨vs', vt'⟩ _
          conv => arg 8; simp only [zA, zB, zC, zD, zE, zF, zG, zH, zI, rowS, ret, id_eq, rowSp, dmL]
          conv => arg 7; simp only [rowSp]
          rw [hrp]
          dsimp only
          refine TW_on (sub_pick [] (by decide) rfl) ?_
          refine TW_one rfl (TL_litN (cs := (rowC r').toArray) [rowV r'] rfl rfl rfl (row_litn r') rfl (row_lit r') rfl fun g62 => (TW_on (sub_pick [] (by decide) rfl) ?_))
          refine TW_one rfl (TL_appSl (i := 1) (e := 96) (size := 256) (bytes := 512) (m := R.length) (xs := R.flatMap rowC) (k := 1) (ys := rowC r') rfl (sl_blk (i := 6) rfl (fun j u h => by simpa using h) (Nat.le_refl 1) (by decide)) rfl rfl (by rw [rowC_len]) (fun u hu => row_one [r'] u (by simpa using hu)) (by omega) (by omega) rfl fun vrows' => (TW_on (sub_pick [] (by decide) rfl) ?_))
          repeat (first
            | ((first | refine TW_plain rfl rfl ?_ | refine TW_gmet rfl rfl rfl rfl ?_); first | refine TN_val (qp rfl) rfl rfl ?_ | refine TN_val (rr_nilc rfl) rfl rfl ?_ | refine TN_val (qlen Und.eq rfl) rfl rfl ?_ | refine TN_val (qfld FldC.fld rfl rfl) rfl rfl ?_ | refine TN_val (rr_nilc rfl) rfl rfl ?_ | refine TN_val (rr_lss rfl rfl (qT (by omega))) rfl rfl ?_ | refine TN_val (rr_lss rfl rfl (qF (by omega))) rfl rfl ?_ | refine TN_val (rr_gtr rfl rfl (qT (by omega))) rfl rfl ?_ | refine TN_val (rr_gtr rfl rfl (qF (by omega))) rfl rfl ?_ | refine TN_val (rr_geq rfl rfl (qT (by omega))) rfl rfl ?_ | refine TN_val (rr_geq rfl rfl (qF (by omega))) rfl rfl ?_ | refine TN_val (rr_neq rfl rfl (qT (by omega))) rfl rfl ?_ | refine TN_val (rr_neq rfl rfl (qF (by omega))) rfl rfl ?_ | refine TN_val (rr_add64 rfl rfl (by omega) (by omega) rfl) rfl rfl ?_ | refine TN_val (rr_sub64 rfl rfl (by omega) (by omega) rfl) rfl rfl ?_)
            | refine TW_done ?_)
          refine TW_one rfl (TL_slv (i := 1) rfl fun hv1 hv2 => TL_store1 (i := 2) rfl rfl rfl hv1 hv2 rfl (TW_on (sub_pick [] (by decide) rfl) ?_))
          repeat (first
            | ((first | refine TW_plain rfl rfl ?_ | refine TW_gmet rfl rfl rfl rfl ?_); first | refine TN_val (qp rfl) rfl rfl ?_ | refine TN_val (qlen Und.eq rfl) rfl rfl ?_ | refine TN_val (qfld FldC.fld rfl rfl) rfl rfl ?_ | refine TN_val (rr_nilc rfl) rfl rfl ?_ | refine TN_val (rr_lss rfl rfl (qT (by omega))) rfl rfl ?_ | refine TN_val (rr_lss rfl rfl (qF (by omega))) rfl rfl ?_ | refine TN_val (rr_gtr rfl rfl (qT (by omega))) rfl rfl ?_ | refine TN_val (rr_gtr rfl rfl (qF (by omega))) rfl rfl ?_ | refine TN_val (rr_geq rfl rfl (qT (by omega))) rfl rfl ?_ | refine TN_val (rr_geq rfl rfl (qF (by omega))) rfl rfl ?_ | refine TN_val (rr_neq rfl rfl (qT (by omega))) rfl rfl ?_ | refine TN_val (rr_neq rfl rfl (qF (by omega))) rfl rfl ?_ | refine TN_val (rr_add64 rfl rfl (by omega) (by omega) rfl) rfl rfl ?_ | refine TN_val (rr_sub64 rfl rfl (by omega) (by omega) rfl) rfl rfl ?_)
            | refine TW_done ?_)
          refine E_pick [0, 2, 3, 4, 5, 1] (by decide) rfl ?_
          exact E_mid (vs', vrows', vt') trivial (by repeat' (first | exact True.intro | refine And.intro rfl ?_)) (by dsimp only; rw [row_snocR]; rfl)
        · refine TL_callB [1, 2, 3, 4] [0, 5] (by decide) rfl rfl (he2 EntersC.en rfl rfl rfl) (fun w' hm hb => hcall w' hm hb) rfl rfl rfl ?_
          rintro ⟨vs', vt'⟩ _
          conv => arg 8; simp only [zA, zB, zC, zD, zE, zF, zG, zH, zI, rowS, ret, id_eq, rowSp, dmL]
          conv => arg 7; simp only [rowSp]
          rw [hrp]
          dsimp only
          refine TW_on (sub_pick [] (by decide) rfl) ?_
          refine TW_two rfl rfl ?_ ?_
          · refine TL_val (rr_load1 (v := vrows) TyC.ty rfl (at_blk (i := 2) rfl rfl)) rfl rfl rfl (TW_on (sub_pick [] (by decide) rfl) ?_)
            refine TW_one rfl (TL_litN (cs := (rowC r').toArray) [rowV r'] rfl rfl rfl (row_litn r') rfl (row_lit r') rfl fun g62 => (TW_on (sub_pick [] (by decide) rfl) ?_))
            refine TW_one rfl (TL_appSl (i := 1) (e := 96) (size := 256) (bytes := 512) (m := R.length) (xs := R.flatMap rowC) (k := 1) (ys := rowC r') rfl (sl_blk (i := 6) rfl (fun j u h => by simpa using h) (Nat.le_refl 1) (by decide)) rfl rfl (by rw [rowC_len]) (fun u hu => row_one [r'] u (by simpa using hu)) (by omega) (by omega) rfl fun vrows' => (TW_on (sub_pick [] (by decide) rfl) ?_))
            repeat (first
              | ((first | refine TW_plain rfl rfl ?_ | refine TW_gmet rfl rfl rfl rfl ?_); first | refine TN_val (qp rfl) rfl rfl ?_ | refine TN_val (rr_nilc rfl) rfl rfl ?_ | refine TN_val (qlen Und.eq rfl) rfl rfl ?_ | refine TN_val (qfld FldC.fld rfl rfl) rfl rfl ?_ | refine TN_val (rr_nilc rfl) rfl rfl ?_ | refine TN_val (rr_lss rfl rfl (qT (by omega))) rfl rfl ?_ | refine TN_val (rr_lss rfl rfl (qF (by omega))) rfl rfl ?_ | refine TN_val (rr_gtr rfl rfl (qT (by omega))) rfl rfl ?_ | refine TN_val (rr_gtr rfl rfl (qF (by omega))) rfl rfl ?_ | refine TN_val (rr_geq rfl rfl (qT (by omega))) rfl rfl ?_ | refine TN_val (rr_geq rfl rfl (qF (by omega))) rfl rfl ?_ | refine TN_val (rr_neq rfl rfl (qT (by omega))) rfl rfl ?_ | refine TN_val (rr_neq rfl rfl (qF (by omega))) rfl rfl ?_ | refine TN_val (rr_add64 rfl rfl (by omega) (by omega) rfl) rfl rfl ?_ | refine TN_val (rr_sub64 rfl rfl (by omega) (by omega) rfl) rfl rfl ?_)
              | refine TW_done ?_)
            refine TW_one rfl (TL_slv (i := 1) rfl fun hv1 hv2 => TL_store1 (i := 2) rfl rfl rfl hv1 hv2 rfl (TW_on (sub_pick [] (by decide) rfl) ?_))
            repeat (first
              | ((first | refine TW_plain rfl rfl ?_ | refine TW_gmet rfl rfl rfl rfl ?_); first | refine TN_val (qp rfl) rfl rfl ?_ | refine TN_val (qlen Und.eq rfl) rfl rfl ?_ | refine TN_val (qfld FldC.fld rfl rfl) rfl rfl ?_ | refine TN_val (rr_nilc rfl) rfl rfl ?_ | refine TN_val (rr_lss rfl rfl (qT (by omega))) rfl rfl ?_ | refine TN_val (rr_lss rfl rfl (qF (by omega))) rfl rfl ?_ | refine TN_val (rr_gtr rfl rfl (qT (by omega))) rfl rfl ?_ | refine TN_val (rr_gtr rfl rfl (qF (by omega))) rfl rfl ?_ | refine TN_val (rr_geq rfl rfl (qT (by omega))) rfl rfl ?_ | refine TN_val (rr_geq rfl rfl (qF (by omega))) rfl rfl ?_ | refine TN_val (rr_neq rfl rfl (qT (by omega))) rfl rfl ?_ | refine TN_val (rr_neq rfl rfl (qF (by omega))) rfl rfl ?_ | refine TN_val (rr_add64 rfl rfl (by omega) (by omega) rfl) rfl rfl ?_ | refine TN_val (rr_sub64 rfl rfl (by omega) (by omega) rfl) rfl rfl ?_)
              | refine TW_done ?_)
            refine E_pick [0, 2, 3, 4, 5, 1] (by decide) rfl ?_
            exact E_mid (vs', vrows', vt') trivial (by repeat' (first | exact True.intro | refine And.intro rfl ?_)) (by dsimp only; rw [row_snocR]; rfl)
          · refine TL_litN (cs := (rowC r').toArray) [rowV r'] rfl rfl rfl (row_litn r') rfl (row_lit r') rfl fun g62 => (TW_on (sub_pick [] (by decide) rfl) ?_)
            refine TW_one rfl (TL_val (rr_load1 (v := vrows) TyC.ty rfl (at_blk (i := 2) rfl rfl)) rfl rfl rfl (TW_on (sub_pick [] (by decide) rfl) ?_))
            refine TW_one rfl (TL_appSl (i := 1) (e := 96) (size := 256) (bytes := 512) (m := R.length) (xs := R.flatMap rowC) (k := 1) (ys := rowC r') rfl (sl_blk (i := 6) rfl (fun j u h => by simpa using h) (Nat.le_refl 1) (by decide)) rfl rfl (by rw [rowC_len]) (fun u hu => row_one [r'] u (by simpa using hu)) (by omega) (by omega) rfl fun vrows' => (TW_on (sub_pick [] (by decide) rfl) ?_))
            repeat (first
              | ((first | refine TW_plain rfl rfl ?_ | refine TW_gmet rfl rfl rfl rfl ?_); first | refine TN_val (qp rfl) rfl rfl ?_ | refine TN_val (rr_nilc rfl) rfl rfl ?_ | refine TN_val (qlen Und.eq rfl) rfl rfl ?_ | refine TN_val (qfld FldC.fld rfl rfl) rfl rfl ?_ | refine TN_val (rr_nilc rfl) rfl rfl ?_ | refine TN_val (rr_lss rfl rfl (qT (by omega))) rfl rfl ?_ | refine TN_val (rr_lss rfl rfl (qF (by omega))) rfl rfl ?_ | refine TN_val (rr_gtr rfl rfl (qT (by omega))) rfl rfl ?_ | refine TN_val (rr_gtr rfl rfl (qF (by omega))) rfl rfl ?_ | refine TN_val (rr_geq rfl rfl (qT (by omega))) rfl rfl ?_ | refine TN_val (rr_geq rfl rfl (qF (by omega))) rfl rfl ?_ | refine TN_val (rr_neq rfl rfl (qT (by omega))) rfl rfl ?_ | refine TN_val (rr_neq rfl rfl (qF (by omega))) rfl rfl ?_ | refine TN_val (rr_add64 rfl rfl (by omega) (by omega) rfl) rfl rfl ?_ | refine TN_val (rr_sub64 rfl rfl (by omega) (by omega) rfl) rfl rfl ?_)
              | refine TW_done ?_)
            refine TW_one rfl (TL_slv (i := 1) rfl fun hv1 hv2 => TL_store1 (i := 2) rfl rfl rfl hv1 hv2 rfl (TW_on (sub_pick [] (by decide) rfl) ?_))
            repeat (first
              | ((first | refine TW_plain rfl rfl ?_ | refine TW_gmet rfl rfl rfl rfl ?_); first | refine TN_val (qp rfl) rfl rfl ?_ | refine TN_val (qlen Und.eq rfl) rfl rfl ?_ | refine TN_val (qfld FldC.fld rfl rfl) rfl rfl ?_ | refine TN_val (rr_nilc rfl) rfl rfl ?_ | refine TN_val (rr_lss rfl rfl (qT (by omega))) rfl rfl ?_ | refine TN_val (rr_lss rfl rfl (qF (by omega))) rfl rfl ?_ | refine TN_val (rr_gtr rfl rfl (qT (by omega))) rfl rfl ?_ | refine TN_val (rr_gtr rfl rfl (qF (by omega))) rfl rfl ?_ | refine TN_val (rr_geq rfl rfl (qT (by omega))) rfl rfl ?_ | refine TN_val (rr_geq rfl rfl (qF (by omega))) rfl rfl ?_ | refine TN_val (rr_neq rfl rfl (qT (by omega))) rfl rfl ?_ | refine TN_val (rr_neq rfl rfl (qF (by omega))) rfl rfl ?_ | refine TN_val (rr_add64 rfl rfl (by omega) (by omega) rfl) rfl rfl ?_ | refine TN_val (rr_sub64 rfl rfl (by omega) (by omega) rfl) rfl rfl ?_)
              | refine TW_done ?_)
            refine E_pick [0, 2, 3, 4, 5, 1] (by decide) rfl ?_
            exact E_mid (vs', vrows', vt') trivial (by repeat' (first | exact True.intro | refine And.intro rfl ?_)) (by dsimp only; rw [row_snocR]; rfl)
      clear hcall
      rintro ⟨vs', vrows', vt'⟩ _
      dsimp only
      refine T_know (i := 2) rfl row_slm fun hrow => ?_
      obtain ⟨ab', cs', rfl, hmS', -⟩ := hrow
      by_cases c2 : 200 < d'.S.length + 1
      · rw [if_pos c2] at i4
        have ho := outD_8 i4.symm
        unfold mkdSp
        rw [ho]
        repeat (first
          | refine qv rfl (qp rfl) rfl rfl ?_ | refine TL_nil ?_ | refine T_seq ?_ | refine T_region ?_ | refine qcT rfl ?_ | refine qcF rfl ?_ | refine T_skip ?_
          | refine T_exit ?_ | refine T_ret ?_ | refine T_block ?_ | refine E_then ?_ | refine E_thenX ?_ | refine E_thenR ?_ | refine E_blockN ?_
          | refine E_blockR ?_ | refine E_blockX ?_ | refine E_blockO rfl ?_ | refine qv rfl (rr_nilc rfl) rfl rfl ?_
          | refine qv rfl (rr_load1 (v := .slice ab' (d'.S.length + 1) cs') TyC.ty rfl (at_blk (i := 1) rfl rfl)) rfl rfl ?_
          | refine qv rfl (rr_gtr (b := true) rfl rfl (decide_eq_true (by omega))) rfl rfl ?_ | refine qv rfl (rr_build rfl hbz) rfl rfl ?_
          | refine qv rfl (qlen Und.eq rfl) rfl rfl ?_ | refine qv rfl (qfld FldC.fld rfl rfl) rfl rfl ?_ | refine qv rfl (rr_nilc rfl) rfl rfl ?_
          | refine qv rfl (rr_lss rfl rfl (qT (by omega))) rfl rfl ?_ | refine qv rfl (rr_lss rfl rfl (qF (by omega))) rfl rfl ?_
          | refine qv rfl (rr_gtr rfl rfl (qT (by omega))) rfl rfl ?_ | refine qv rfl (rr_gtr rfl rfl (qF (by omega))) rfl rfl ?_
          | refine qv rfl (rr_geq rfl rfl (qT (by omega))) rfl rfl ?_ | refine qv rfl (rr_geq rfl rfl (qF (by omega))) rfl rfl ?_
          | refine qv rfl (rr_neq rfl rfl (qT (by omega))) rfl rfl ?_ | refine qv rfl (rr_neq rfl rfl (qF (by omega))) rfl rfl ?_
          | refine qv rfl (rr_add64 rfl rfl (by omega) (by omega) rfl) rfl rfl ?_ | refine qv rfl (rr_sub64 rfl rfl (by omega) (by omega) rfl) rfl rfl ?_)
        refine TL_storeB (i := 0) rfl rfl rfl rfl rfl rfl ?_
        conv => arg 8; simp only [zA, zB, zC, zD, zE, zF, zG, zH, zI, rowS, ret, id_eq]
        repeat (first
          | refine qv rfl (qp rfl) rfl rfl ?_ | refine TL_nil ?_ | refine T_seq ?_ | refine T_region ?_ | refine qcT rfl ?_ | refine qcF rfl ?_ | refine T_skip ?_
          | refine T_exit ?_ | refine T_ret ?_ | refine T_block ?_ | refine E_then ?_ | refine E_thenX ?_ | refine E_thenR ?_ | refine E_blockN ?_
          | refine E_blockR ?_ | refine E_blockX ?_ | refine E_blockO rfl ?_ | refine qv rfl (qlen Und.eq rfl) rfl rfl ?_
          | refine qv rfl (qfld FldC.fld rfl rfl) rfl rfl ?_ | refine qv rfl (rr_nilc rfl) rfl rfl ?_ | refine qv rfl (rr_lss rfl rfl (qT (by omega))) rfl rfl ?_
          | refine qv rfl (rr_lss rfl rfl (qF (by omega))) rfl rfl ?_ | refine qv rfl (rr_gtr rfl rfl (qT (by omega))) rfl rfl ?_
          | refine qv rfl (rr_gtr rfl rfl (qF (by omega))) rfl rfl ?_ | refine qv rfl (rr_geq rfl rfl (qT (by omega))) rfl rfl ?_
          | refine qv rfl (rr_geq rfl rfl (qF (by omega))) rfl rfl ?_ | refine qv rfl (rr_neq rfl rfl (qT (by omega))) rfl rfl ?_
          | refine qv rfl (rr_neq rfl rfl (qF (by omega))) rfl rfl ?_ | refine qv rfl (rr_add64 rfl rfl (by omega) (by omega) rfl) rfl rfl ?_
          | refine qv rfl (rr_sub64 rfl rfl (by omega) (by omega) rfl) rfl rfl ?_)
        refine E_nilrow 96 256 (E_nilrow 3 1 ?_)
        exact E_retc2 (i := 0) rfl rfl rfl rfl rfl fun w hm => hm.meets (S := ⟨fun (_ : Value × Value) => True, fun x => .tuple #[dfaV x.1 x.2, .int .i64 8], fun x => [rowO 96 256 x.1 0 [], rowO 3 1 x.2 0 []]⟩) (.slice none 0 0, .slice none 0 0) trivial [6, 7] (by decide) rfl
      · rw [if_neg c2] at i4
        repeat (first
          | refine qv rfl (qp rfl) rfl rfl ?_ | refine TL_nil ?_ | refine T_seq ?_ | refine T_region ?_ | refine qcT rfl ?_ | refine qcF rfl ?_ | refine T_skip ?_
          | refine T_exit ?_ | refine T_ret ?_ | refine T_block ?_ | refine E_then ?_ | refine E_thenX ?_ | refine E_thenR ?_ | refine E_blockN ?_
          | refine E_blockR ?_ | refine E_blockX ?_ | refine E_blockO rfl ?_ | refine qv rfl (rr_nilc rfl) rfl rfl ?_
          | refine qv rfl (rr_load1 (v := .slice ab' (d'.S.length + 1) cs') TyC.ty rfl (at_blk (i := 1) rfl rfl)) rfl rfl ?_
          | refine qv rfl (rr_gtr (b := false) rfl rfl (decide_eq_false (by omega))) rfl rfl ?_ | refine qv rfl (qlen Und.eq rfl) rfl rfl ?_
          | refine qv rfl (qfld FldC.fld rfl rfl) rfl rfl ?_ | refine qv rfl (rr_nilc rfl) rfl rfl ?_ | refine qv rfl (rr_lss rfl rfl (qT (by omega))) rfl rfl ?_
          | refine qv rfl (rr_lss rfl rfl (qF (by omega))) rfl rfl ?_ | refine qv rfl (rr_gtr rfl rfl (qT (by omega))) rfl rfl ?_
          | refine qv rfl (rr_gtr rfl rfl (qF (by omega))) rfl rfl ?_ | refine qv rfl (rr_geq rfl rfl (qT (by omega))) rfl rfl ?_
          | refine qv rfl (rr_geq rfl rfl (qF (by omega))) rfl rfl ?_ | refine qv rfl (rr_neq rfl rfl (qT (by omega))) rfl rfl ?_
          | refine qv rfl (rr_neq rfl rfl (qF (by omega))) rfl rfl ?_ | refine qv rfl (rr_add64 rfl rfl (by omega) (by omega) rfl) rfl rfl ?_
          | refine qv rfl (rr_sub64 rfl rfl (by omega) (by omega) rfl) rfl rfl ?_)
        exact E_round (n + 1, R ++ [r'], d', .slice ab' (d'.S.length + 1) cs', vrows', vt') ⟨by rw [List.length_append, i0]; rfl, by show n + 1 ≤ d'.S.length + 1; omega, s1, by show d'.S.length + 1 ≤ 200; omega, i4⟩ (by show 201 - (n + 1) < 201 - n; omega) (by repeat' (first | exact True.intro | refine And.intro rfl ?_)) rfl
    · have i5 : makeD m = some (R, d) := by
        rw [← i4, show 201 - n = (201 - (n + 1)) + 1 by omega, make_step, if_neg c1]
      have ho := outD_0 i5
      unfold mkdSp
      rw [ho]
      refine T_know (i := 4) rfl row_slm fun hrow => ?_
      obtain ⟨at', ct', rfl, -⟩ := hrow
      refine T_know (i := 5) rfl row_slm fun hrow => ?_
      obtain ⟨ar', cr', rfl, -⟩ := hrow
      repeat (first
        | refine qv rfl (qp rfl) rfl rfl ?_ | refine TL_nil ?_ | refine T_seq ?_ | refine T_region ?_ | refine qcT rfl ?_ | refine qcF rfl ?_ | refine T_skip ?_
        | refine T_exit ?_ | refine T_ret ?_ | refine T_block ?_ | refine E_then ?_ | refine E_thenX ?_ | refine E_thenR ?_ | refine E_blockN ?_
        | refine E_blockR ?_ | refine E_blockX ?_ | refine E_blockO rfl ?_ | refine qv rfl (rr_nilc rfl) rfl rfl ?_
        | refine qv rfl (rr_load1 (v := .slice ab (d.S.length + 1) cs) TyC.ty rfl (at_blk (i := 1) rfl rfl)) rfl rfl ?_
        | refine qv rfl (rr_lss (b := false) rfl rfl (decide_eq_false (by omega))) rfl rfl ?_
        | refine qv rfl (rr_loadN (cs := [.slice ar' R.length cr', .slice at' d.tags.length ct']) TyC.ty rfl rfl (fun j v hj => at_blk (i := 1) rfl (dmc_at hj))) rfl rfl ?_
        | refine qv rfl (qlen Und.eq rfl) rfl rfl ?_ | refine qv rfl (qfld FldC.fld rfl rfl) rfl rfl ?_ | refine qv rfl (rr_nilc rfl) rfl rfl ?_
        | refine qv rfl (rr_lss rfl rfl (qT (by omega))) rfl rfl ?_ | refine qv rfl (rr_lss rfl rfl (qF (by omega))) rfl rfl ?_
        | refine qv rfl (rr_gtr rfl rfl (qT (by omega))) rfl rfl ?_ | refine qv rfl (rr_gtr rfl rfl (qF (by omega))) rfl rfl ?_
        | refine qv rfl (rr_geq rfl rfl (qT (by omega))) rfl rfl ?_ | refine qv rfl (rr_geq rfl rfl (qF (by omega))) rfl rfl ?_
        | refine qv rfl (rr_neq rfl rfl (qT (by omega))) rfl rfl ?_ | refine qv rfl (rr_neq rfl rfl (qF (by omega))) rfl rfl ?_
        | refine qv rfl (rr_add64 rfl rfl (by omega) (by omega) rfl) rfl rfl ?_ | refine qv rfl (rr_sub64 rfl rfl (by omega) (by omega) rfl) rfl rfl ?_)
      refine TL_storeB (i := 0) (cs' := #[.slice ar' R.length cr', .slice at' d.tags.length ct']) rfl rfl rfl rfl rfl rfl ?_
      conv => arg 8; simp only [zA, zB, zC, zD, zE, zF, zG, zH, zI, rowS, ret, id_eq]
      repeat (first
        | refine qv rfl (qp rfl) rfl rfl ?_ | refine TL_nil ?_ | refine T_seq ?_ | refine T_region ?_ | refine qcT rfl ?_ | refine qcF rfl ?_ | refine T_skip ?_
        | refine T_exit ?_ | refine T_ret ?_ | refine T_block ?_ | refine E_then ?_ | refine E_thenX ?_ | refine E_thenR ?_ | refine E_blockN ?_
        | refine E_blockR ?_ | refine E_blockX ?_ | refine E_blockO rfl ?_ | refine qv rfl (qlen Und.eq rfl) rfl rfl ?_
        | refine qv rfl (qfld FldC.fld rfl rfl) rfl rfl ?_ | refine qv rfl (rr_nilc rfl) rfl rfl ?_ | refine qv rfl (rr_lss rfl rfl (qT (by omega))) rfl rfl ?_
        | refine qv rfl (rr_lss rfl rfl (qF (by omega))) rfl rfl ?_ | refine qv rfl (rr_gtr rfl rfl (qT (by omega))) rfl rfl ?_
        | refine qv rfl (rr_gtr rfl rfl (qF (by omega))) rfl rfl ?_ | refine qv rfl (rr_geq rfl rfl (qT (by omega))) rfl rfl ?_
        | refine qv rfl (rr_geq rfl rfl (qF (by omega))) rfl rfl ?_ | refine qv rfl (rr_neq rfl rfl (qT (by omega))) rfl rfl ?_
        | refine qv rfl (rr_neq rfl rfl (qF (by omega))) rfl rfl ?_ | refine qv rfl (rr_add64 rfl rfl (by omega) (by omega) rfl) rfl rfl ?_
        | refine qv rfl (rr_sub64 rfl rfl (by omega) (by omega) rfl) rfl rfl ?_)
      exact E_retc2 (i := 0) rfl rfl rfl rfl rfl fun w hm => hm.meets (S := ⟨fun (_ : Value × Value) => True, fun x => .tuple #[dfaV x.1 x.2, .int .i64 0], fun x => [rowO 96 256 x.1 R.length (R.flatMap rowC), intR x.2 d.tags]⟩) (.slice ar' R.length cr', .slice at' d.tags.length ct') trivial [5, 4] (by decide) rfl
end Go.Proofs.Ytkmemlnkijinlaa.eng

/- Made -/
namespace Go.Proofs.Ytkmemlnkijinlaa.eng
open Go.RowKit kit mix classL rexL placesL dfaP smallL
def mdSp (x : List Row × List Int × Bool) : Spec (Value × Value) := ⟨fun _ => True, fun v => .tuple #[dfaV v.1 v.2, .bool x.2.2], fun v => [rowO 96 256 v.1 x.1.length (x.1.flatMap rowC), intR v.2 x.2.1]⟩
/-- what rules are made into -/
def MadeR (rs : List Rx) (x : List Row × List Int × Bool) : Prop :=
  (∃ k : Int, k ≠ 0 ∧ MakeR rs (k, .zero) ∧ x = ([], [], false)) ∨ ∃ (es : List Re) (m : MS), rs = es.map emb ∧ (∀ e ∈ es, Fit e 1 0) ∧ 0 < es.length ∧ es.length ≤ 20 ∧ loopM 0 .zero es = (0, m) ∧ MakeR rs (0, m) ∧ x = ((outD m).1, (outD m).2.1, decide ((outD m).2.2 = 0))
set_option maxHeartbeats 4000000 in
theorem made_calls (v : Value) (rs : List Rx) (x : List Row × List Int × Bool) (w : World) (hv : SlF rexS (Low w) w v rs) (hx : MadeR rs x) :
    Calls Try.prog 19 #[v] w (Meets (mdSp x) w) := by
  have hvg := fun w' (hg : Gr w w') => slr_gr hv hg
  obtain ⟨bk, ck, rfl, -⟩ := hv
  have hbz := build_dfaz
  rcases hx with ⟨k, hk, hR, rfl⟩ | ⟨es, m, rfl, hfit, h0, h20, hlp, hR, rfl⟩
  · have hmk := fun w' (hg : Gr w w') => make_calls (.slice bk rs.length ck) rs (k, .zero) w' (hvg w' hg) hR
    refine enter (args := [.slice bk rs.length ck]) (n := 23) Try.func19 rfl rfl rfl ?_
    refine T_seq (T_region (TL_new rfl fun g2 => ?_))
    conv => arg 8; simp only [zA, zB, zC, zD, zE, zF, zG, zH, zI, rowS, ret, id_eq]
    repeat (first
      | refine qv rfl (qp rfl) rfl rfl ?_ | refine TL_nil ?_ | refine T_seq ?_ | refine T_region ?_ | refine qcT rfl ?_ | refine qcF rfl ?_ | refine T_skip ?_
      | refine T_ret ?_ | refine E_then ?_ | refine E_thenR ?_ | refine qv rfl (rr_eql rfl rfl (qT (by omega))) rfl rfl ?_
      | refine qv rfl (rr_eql rfl rfl (qF (by omega))) rfl rfl ?_ | refine qv rfl (rr_neq rfl rfl (qT (by omega))) rfl rfl ?_
      | refine qv rfl (rr_neq rfl rfl (qF (by omega))) rfl rfl ?_)
    refine TL_call (he1 EntersC.en rfl rfl) (fun w hm => hmk _ hm.below) rfl rfl rfl ?_
    rintro ⟨vc1, vr1, vf1, vfol1, vl1, ve1, vs1, F1⟩ hx1
    conv => arg 8; simp only [zA, zB, zC, zD, zE, zF, zG, zH, zI, rowS, ret, id_eq, makeSp, posL, posC]
    conv => arg 7; simp only [makeSp, posC]
    refine TL_slv (i := 1) rfl fun _ a1 => TL_slv (i := 2) rfl fun _ a2 => TL_slv (i := 3) rfl fun _ a3 => TL_slv (i := 4) rfl fun _ a4 => TL_slv (i := 6) rfl fun _ a5 => TL_slv (i := 7) rfl fun _ a6 => ?_
    repeat (first
      | refine qv rfl (qp rfl) rfl rfl ?_ | refine TL_nil ?_ | refine T_seq ?_ | refine T_region ?_ | refine qcT rfl ?_ | refine qcF rfl ?_ | refine T_skip ?_
      | refine T_ret ?_ | refine E_then ?_ | refine E_thenR ?_ | refine qv rfl (rr_eql rfl rfl (qT (by omega))) rfl rfl ?_
      | refine qv rfl (rr_eql rfl rfl (qF (by omega))) rfl rfl ?_ | refine qv rfl (rr_neq rfl rfl (qT (by omega))) rfl rfl ?_
      | refine qv rfl (rr_neq rfl rfl (qF (by omega))) rfl rfl ?_)
    refine TL_new rfl fun g4 => ?_
    conv => arg 8; simp only [zA, zB, zC, zD, zE, zF, zG, zH, zI, rowS, ret, id_eq]
    refine TL_storeB (i := 8) (cs' := #[vc1, vr1, vf1, vfol1, vl1, ve1]) rfl rfl rfl rfl (by simp only [List.all_cons, List.all_nil, a1, a2, a3, a4, a5, a6]; rfl) rfl ?_
    conv => arg 8; simp only [zA, zB, zC, zD, zE, zF, zG, zH, zI, rowS, ret, id_eq]
    repeat (first
      | refine qv rfl (qp rfl) rfl rfl ?_ | refine TL_nil ?_ | refine T_seq ?_ | refine T_region ?_ | refine qcT rfl ?_ | refine qcF rfl ?_ | refine T_skip ?_
      | refine T_ret ?_ | refine E_then ?_ | refine E_thenR ?_ | refine qv rfl (rr_neq (b := true) rfl rfl (decide_eq_true hk)) rfl rfl ?_
      | refine qv rfl (rr_build rfl hbz) rfl rfl ?_ | refine qv rfl (rr_eql rfl rfl (qT (by omega))) rfl rfl ?_
      | refine qv rfl (rr_eql rfl rfl (qF (by omega))) rfl rfl ?_ | refine qv rfl (rr_neq rfl rfl (qT (by omega))) rfl rfl ?_
      | refine qv rfl (rr_neq rfl rfl (qF (by omega))) rfl rfl ?_)
    refine TL_storeB (i := 0) rfl rfl rfl rfl rfl rfl ?_
    conv => arg 8; simp only [zA, zB, zC, zD, zE, zF, zG, zH, zI, rowS, ret, id_eq]
    repeat (first
      | refine qv rfl (qp rfl) rfl rfl ?_ | refine TL_nil ?_ | refine T_seq ?_ | refine T_region ?_ | refine qcT rfl ?_ | refine qcF rfl ?_ | refine T_skip ?_
      | refine T_ret ?_ | refine E_then ?_ | refine E_thenR ?_ | refine qv rfl (rr_eql rfl rfl (qT (by omega))) rfl rfl ?_
      | refine qv rfl (rr_eql rfl rfl (qF (by omega))) rfl rfl ?_ | refine qv rfl (rr_neq rfl rfl (qT (by omega))) rfl rfl ?_
      | refine qv rfl (rr_neq rfl rfl (qF (by omega))) rfl rfl ?_)
    refine E_nilrow 96 256 (E_nilrow 3 1 ?_)
    exact E_retc2 (i := 0) rfl rfl rfl rfl rfl fun w hm => hm.meets (S := mdSp ([], [], false)) (.slice none 0 0, .slice none 0 0) trivial [9, 10] (by decide) rfl
  · have hmk := fun w' (hg : Gr w w') => make_calls (.slice bk (es.map emb).length ck) (es.map emb) (0, m) w' (hvg w' hg) hR
    have hok := make_ok h0 h20 hlp
    have hdm := fun v' w' h => dfaMake_calls v' m w' h hok
    unfold mkdSp at hdm
    generalize outD m = D at *
    obtain ⟨R, T, e⟩ := D
    dsimp only at hdm ⊢
    refine enter (args := [.slice bk (es.map emb).length ck]) (n := 23) Try.func19 rfl rfl rfl ?_
    refine T_seq (T_region (TL_new rfl fun g2 => ?_))
    conv => arg 8; simp only [zA, zB, zC, zD, zE, zF, zG, zH, zI, rowS, ret, id_eq]
    repeat (first
      | refine qv rfl (qp rfl) rfl rfl ?_ | refine TL_nil ?_ | refine T_seq ?_ | refine T_region ?_ | refine qcT rfl ?_ | refine qcF rfl ?_ | refine T_skip ?_
      | refine T_ret ?_ | refine E_then ?_ | refine E_thenR ?_ | refine qv rfl (rr_eql rfl rfl (qT (by omega))) rfl rfl ?_
      | refine qv rfl (rr_eql rfl rfl (qF (by omega))) rfl rfl ?_ | refine qv rfl (rr_neq rfl rfl (qT (by omega))) rfl rfl ?_
      | refine qv rfl (rr_neq rfl rfl (qF (by omega))) rfl rfl ?_)
    refine TL_call (he1 EntersC.en rfl rfl) (fun w hm => hmk _ hm.below) rfl rfl rfl ?_
    rintro ⟨vc1, vr1, vf1, vfol1, vl1, ve1, vs1, F1⟩ hx1
    have hx1 : vs1.length = m.ps.follow.length := hx1
    conv => arg 8; simp only [zA, zB, zC, zD, zE, zF, zG, zH, zI, rowS, ret, id_eq, makeSp, posL, posC]
    conv => arg 7; simp only [makeSp, posC]
    refine TL_slv (i := 1) rfl fun _ a1 => TL_slv (i := 2) rfl fun _ a2 => TL_slv (i := 3) rfl fun _ a3 => TL_slv (i := 4) rfl fun _ a4 => TL_slv (i := 6) rfl fun _ a5 => TL_slv (i := 7) rfl fun _ a6 => ?_
    repeat (first
      | refine qv rfl (qp rfl) rfl rfl ?_ | refine TL_nil ?_ | refine T_seq ?_ | refine T_region ?_ | refine qcT rfl ?_ | refine qcF rfl ?_ | refine T_skip ?_
      | refine T_ret ?_ | refine E_then ?_ | refine E_thenR ?_ | refine qv rfl (rr_eql rfl rfl (qT (by omega))) rfl rfl ?_
      | refine qv rfl (rr_eql rfl rfl (qF (by omega))) rfl rfl ?_ | refine qv rfl (rr_neq rfl rfl (qT (by omega))) rfl rfl ?_
      | refine qv rfl (rr_neq rfl rfl (qF (by omega))) rfl rfl ?_)
    refine TL_new rfl fun g4 => ?_
    conv => arg 8; simp only [zA, zB, zC, zD, zE, zF, zG, zH, zI, rowS, ret, id_eq]
    refine TL_storeB (i := 8) (cs' := #[vc1, vr1, vf1, vfol1, vl1, ve1]) rfl rfl rfl rfl (by simp only [List.all_cons, List.all_nil, a1, a2, a3, a4, a5, a6]; rfl) rfl ?_
    conv => arg 8; simp only [zA, zB, zC, zD, zE, zF, zG, zH, zI, rowS, ret, id_eq]
    clear a1 a2 a3 a4 a5 a6
    repeat (first
      | refine qv rfl (qp rfl) rfl rfl ?_ | refine TL_nil ?_ | refine T_seq ?_ | refine T_region ?_ | refine qcT rfl ?_ | refine qcF rfl ?_ | refine T_skip ?_
      | refine T_ret ?_ | refine E_then ?_ | refine E_thenR ?_ | refine qv rfl (rr_neq (b := false) rfl rfl (decide_eq_false (by simp))) rfl rfl ?_
      | refine qv rfl (rr_loadB (i := 8) TyC.ty rfl rfl rfl) rfl rfl ?_ | refine qv rfl (rr_eql rfl rfl (qT (by omega))) rfl rfl ?_
      | refine qv rfl (rr_eql rfl rfl (qF (by omega))) rfl rfl ?_ | refine qv rfl (rr_neq rfl rfl (qT (by omega))) rfl rfl ?_
      | refine qv rfl (rr_neq rfl rfl (qF (by omega))) rfl rfl ?_)
    refine TL_call (he1 EntersC.en rfl rfl) (fun w hm => hdm _ w (hm.posR (x := ⟨vc1, vr1, vf1, vfol1, vl1, ve1, vs1, F1⟩) 1 hx1 rfl (by simp))) rfl rfl rfl ?_
    rintro ⟨vrr, vtt⟩ _
    conv => arg 8; simp only [zA, zB, zC, zD, zE, zF, zG, zH, zI, rowS, ret, id_eq, dfaV]
    conv => arg 7; simp only [dfaV]
    refine TL_slv (i := 9) rfl fun _ a1 => TL_slv (i := 10) rfl fun _ a2 => ?_
    repeat (first
      | refine qv rfl (qp rfl) rfl rfl ?_ | refine TL_nil ?_ | refine T_seq ?_ | refine T_region ?_ | refine qcT rfl ?_ | refine qcF rfl ?_ | refine T_skip ?_
      | refine T_ret ?_ | refine E_then ?_ | refine E_thenR ?_ | refine qv rfl (rr_eql rfl rfl (qT (by omega))) rfl rfl ?_
      | refine qv rfl (rr_eql rfl rfl (qF (by omega))) rfl rfl ?_ | refine qv rfl (rr_neq rfl rfl (qT (by omega))) rfl rfl ?_
      | refine qv rfl (rr_neq rfl rfl (qF (by omega))) rfl rfl ?_)
    refine TL_new rfl fun g6 => ?_
    conv => arg 8; simp only [zA, zB, zC, zD, zE, zF, zG, zH, zI, rowS, ret, id_eq]
    refine TL_storeB (i := 11) (cs' := #[vrr, vtt]) rfl rfl rfl rfl (by simp only [List.all_cons, List.all_nil, a1, a2]; rfl) rfl ?_
    conv => arg 8; simp only [zA, zB, zC, zD, zE, zF, zG, zH, zI, rowS, ret, id_eq]
    repeat (first
      | refine qv rfl (qp rfl) rfl rfl ?_ | refine TL_nil ?_ | refine T_seq ?_ | refine T_region ?_ | refine qcT rfl ?_ | refine qcF rfl ?_ | refine T_skip ?_
      | refine T_ret ?_ | refine E_then ?_ | refine E_thenR ?_ | refine qv rfl (rr_loadB (i := 11) TyC.ty rfl rfl rfl) rfl rfl ?_
      | refine qv rfl (rr_eql (b := decide (e = 0)) rfl rfl rfl) rfl rfl ?_ | refine qv rfl (rr_eql rfl rfl (qT (by omega))) rfl rfl ?_
      | refine qv rfl (rr_eql rfl rfl (qF (by omega))) rfl rfl ?_ | refine qv rfl (rr_neq rfl rfl (qT (by omega))) rfl rfl ?_
      | refine qv rfl (rr_neq rfl rfl (qF (by omega))) rfl rfl ?_)
    refine TL_storeB (i := 0) (cs' := #[vrr, vtt]) rfl rfl rfl rfl (by simp only [List.all_cons, List.all_nil, a1, a2]; rfl) rfl ?_
    conv => arg 8; simp only [zA, zB, zC, zD, zE, zF, zG, zH, zI, rowS, ret, id_eq]
    repeat (first
      | refine qv rfl (qp rfl) rfl rfl ?_ | refine TL_nil ?_ | refine T_seq ?_ | refine T_region ?_ | refine qcT rfl ?_ | refine qcF rfl ?_ | refine T_skip ?_
      | refine T_ret ?_ | refine E_then ?_ | refine E_thenR ?_ | refine qv rfl (rr_eql rfl rfl (qT (by omega))) rfl rfl ?_
      | refine qv rfl (rr_eql rfl rfl (qF (by omega))) rfl rfl ?_ | refine qv rfl (rr_neq rfl rfl (qT (by omega))) rfl rfl ?_
      | refine qv rfl (rr_neq rfl rfl (qF (by omega))) rfl rfl ?_)
    exact E_retc2 (i := 0) rfl rfl rfl rfl rfl fun w hm => hm.meets (S := mdSp (R, T, decide (e = 0))) (vrr, vtt) trivial [9, 10] (by decide) rfl
end Go.Proofs.Ytkmemlnkijinlaa.eng

/- AbcL -/
namespace Go.Proofs.Ytkmemlnkijinlaa.dfaP
open classL rexL placesL smallL
theorem uni_eq {a b c : List Int} (h1 : c.Pairwise (· < ·)) (h2 : ∀ x, (x ∈ a ∨ x ∈ b) ↔ x ∈ c) : uni a b = c :=
  rising_ext (uni_law _ _).1 h1 fun x => by rw [(uni_law _ _).2, h2]
/-- a, ab, blanks -/
def abcE (a b c : C4) : List Re := [.byte a, .cat (.byte a) (.byte b), .cat (.byte c) (.star (.byte c))]
def abcM (a b c : C4) : MS := ⟨⟨[a, a, b, c, c], [0, 1, 1, 2, 2], [[], [2], [], [4], [4]], [true, false, true, true, true]⟩, [0, 1, 3], [false, false, false]⟩
theorem abc_loop (a b c : C4) : loopM 0 .zero (abcE a b c) = (0, abcM a b c) := by
  have u0 : uni [] [0] = [0] := uni_eq (by simp) (by simp)
  have u1 : uni [0] [1] = [0, 1] := uni_eq (by simp) (by simp)
  have u2 : uni [] [2] = [2] := uni_eq (by simp) (by simp)
  have u3 : uni [] [4] = [4] := uni_eq (by simp) (by simp)
  have u4 : uni [3] [4] = [3, 4] := uni_eq (by simp) (by simp)
  have u5 : uni [0, 1] [3] = [0, 1, 3] := uni_eq (by simp) (by simp [or_assoc])
  have s0 : stepM 0 .zero (.byte a) = ⟨⟨[a], [0], [[]], [true]⟩, [0], [false]⟩ := by simp [stepM, nodeF, MS.zero, markF, u0]
  have s1 : stepM 1 ⟨⟨[a], [0], [[]], [true]⟩, [0], [false]⟩ (.cat (.byte a) (.byte b)) = ⟨⟨[a, a, b], [0, 1, 1], [[], [2], []], [true, false, true]⟩, [0, 1], [false, false]⟩ := by
    simp [stepM, nodeF, markF, behindF, u1, u2]
  have s2 : stepM 2 ⟨⟨[a, a, b], [0, 1, 1], [[], [2], []], [true, false, true]⟩, [0, 1], [false, false]⟩ (.cat (.byte c) (.star (.byte c))) = abcM a b c := by
    simp [stepM, nodeF, markF, behindF, u3, u4, u5, abcM]
  unfold abcE
  rw [loopM, s0, if_neg (by simp), loopM, s1, if_neg (by simp), loopM, s2, if_neg (by simp [abcM]), loopM]
def rowB (f : Nat → Int) : Row := Vector.ofFn fun b : Fin 256 => f b
def abcR : List Row := [rowB fun b => if b = 32 then 1 else if b = 97 then 2 else -1, rowB fun b => if b = 32 then 3 else -1, rowB fun b => if b = 98 then 4 else -1, rowB fun b => if b = 32 then 3 else -1, rowB fun _ => -1]
set_option maxRecDepth 1000000 in
theorem abc_make : (makeD (abcM (rangeF 97 97) (rangeF 98 98) (rangeF 32 32))).map (fun x => (x.1, x.2.tags)) = some (abcR, [-1, 2, 0, 2, 1]) := by kernel_rfl
end Go.Proofs.Ytkmemlnkijinlaa.dfaP

/- RexMany -/
namespace Go.Proofs.Ytkmemlnkijinlaa.eng
open Go.RowKit kit mix classL rexL classSets
theorem rexs_of {w : World} {g : Nat} (l : List (Int × C4 × Value × Rx)) (h : (kidO g (l.map fun x => rexC x.1 x.2.1 x.2.2.1)).holds w) (hl : l.length ≤ 100) (hr : ∀ x ∈ l, RexIs (Low w) w (rexC x.1 x.2.1 x.2.2.1) x.2.2.2) :
    SlF rexS (Low w) w (.slice (some ⟨g, 0, none⟩) l.length l.length) (l.map fun x => x.2.2.2) := by
  have hb : w.heap[g]? = some (.cells (l.map fun x => rexC x.1 x.2.1 x.2.2.1).flatten.toArray 63 (0, 0)) := h
  have hm : (l.map fun x => x.2.2.2).length = l.length := List.length_map ..
  refine ⟨some ⟨g, 0, none⟩, l.length, by rw [hm], by rw [hm]; exact Nat.le_refl _, by unfold maxLen; omega, fun _ => ⟨g, 0, rfl, (Array.getElem?_eq_some_iff.1 hb).1, fun i hi => ?_⟩⟩
  have hi' : i < l.length := by omega
  refine ⟨rexC l[i].1 l[i].2.1 l[i].2.2.1, ?_, fun j u hj => ?_⟩
  · have e : (l.map fun x => x.2.2.2)[i] = l[i].2.2.2 := List.getElem_map ..
    rw [e]
    exact hr l[i] (List.getElem_mem hi')
  · rw [cell_of_row w g _ _ _ _ hb, List.getElem?_toArray, Nat.zero_add]
    have hj6 : j < 6 := by have := (List.getElem?_eq_some_iff.1 hj).1; simpa [rexC, clsL] using this
    have := flatten_get (c := 6) (l.map fun x => rexC x.1 x.2.1 x.2.2.1) (fun x hx => by obtain ⟨y, _, rfl⟩ := List.mem_map.1 hx; rfl) i j (by simpa using hi') hj6
    show (l.map fun x => rexC x.1 x.2.1 x.2.2.1).flatten[i * 6 + j]? = some u
    rw [this, List.getElem_map]; exact hj
/-- three -/
theorem rexs_3 {w : World} {g : Nat} {k1 k2 k3 : Int} {c1 c2 c3 : C4} {l1 l2 l3 : List Rx} {v1 v2 v3 : Value} (h : (kidO g [rexC k1 c1 v1, rexC k2 c2 v2, rexC k3 c3 v3]).holds w) (h1 : RexR (Low w) w (rexV k1 c1 v1) (.mk k1 c1 l1)) (h2 : RexR (Low w) w (rexV k2 c2 v2) (.mk k2 c2 l2)) (h3 : RexR (Low w) w (rexV k3 c3 v3) (.mk k3 c3 l3)) :
    SlF rexS (Low w) w (.slice (some ⟨g, 0, none⟩) 3 3) [.mk k1 c1 l1, .mk k2 c2 l2, .mk k3 c3 l3] :=
  rexs_of [(k1, c1, v1, .mk k1 c1 l1), (k2, c2, v2, .mk k2 c2 l2), (k3, c3, v3, .mk k3 c3 l3)] h (by simp) fun x hx => by
    simp only [List.mem_cons, List.not_mem_nil, or_false] at hx
    rcases hx with rfl | rfl | rfl
    · exact rex_cs (r := .mk k1 c1 l1) h1
    · exact rex_cs (r := .mk k2 c2 l2) h2
    · exact rex_cs (r := .mk k3 c3 l3) h3
end Go.Proofs.Ytkmemlnkijinlaa.eng

/- Abc -/
namespace Go.Proofs.Ytkmemlnkijinlaa.eng
open Go.RowKit kit mix classL rexL placesL dfaP smallL classSets
def abcT : List Int := [-1, 2, 0, 2, 1]
theorem abc_chk : chk abcR abcT = 0 := by kernel_rfl
theorem abc_out : outD (abcM (rangeF 97 97) (rangeF 98 98) (rangeF 32 32)) = (abcR, abcT, 0) := by
  have h := abc_make
  cases hd : makeD (abcM (rangeF 97 97) (rangeF 98 98) (rangeF 32 32)) with
  | none => rw [hd] at h; cases h
  | some x =>
    rw [hd] at h
    simp only [Option.map_some, Option.some.injEq, Prod.mk.injEq] at h
    obtain ⟨R, d⟩ := x
    have h1 : R = abcR := h.1
    have h2 : d.tags = [-1, 2, 0, 2, 1] := h.2
    rw [outD_0 hd, h1, h2]; rfl
theorem abc_fit (a b c : C4) (ha : a ≠ C4.zero) (hb : b ≠ C4.zero) (hc : c ≠ C4.zero) : ∀ e ∈ abcE a b c, Fit e 1 0 := by
  intro e he
  simp only [abcE, List.mem_cons, List.not_mem_nil, or_false] at he
  rcases he with rfl | rfl | rfl
  · exact ⟨ha, by simp [Re.size], by simp [Re.hgt]⟩
  · exact ⟨⟨ha, hb⟩, by simp [Re.size], by simp [Re.hgt]⟩
  · exact ⟨⟨hc, hc⟩, by simp [Re.size], by simp [Re.hgt]⟩
theorem abc_made : MadeR ((abcE (rangeF 97 97) (rangeF 98 98) (rangeF 32 32)).map emb) (abcR, abcT, true) := by
  have hf := abc_fit (rangeF 97 97) (rangeF 98 98) (rangeF 32 32) (letter_nz (b := 97) (by decide)) (letter_nz (b := 98) (by decide)) (letter_nz (b := 32) (by decide))
  refine .inr ⟨_, _, rfl, hf, by simp [abcE], by simp [abcE], abc_loop _ _ _, ?_, by rw [abc_out]; rfl⟩
  rw [← abc_loop]
  exact make_fit (by simp [abcE]) (by simp [abcE]) hf
def abcS : Spec (Nat × (Nat → Value) × Value) := ⟨fun _ => True, fun x => pkV (ofS abcR 256) (.slice (some ⟨x.1, 0, none⟩) abcR.length abcR.length) x.2.2,
  fun x => [rowA 24 valV x.1 abcR.length x.2.1, nxO abcR.length (pkD abcR 256) x.2.1, rowO 3 1 x.2.2 abcT.length (abcT.flatMap kit.intC)]⟩
set_option maxRecDepth 100000 in
set_option maxHeartbeats 8000000 in
theorem abc_calls (w : World) : Calls Try.prog 6 #[] w (Meets abcS w) := by
  have la := fun w => letter_calls 97 w ⟨by decide, by decide⟩
  have lb := fun w => letter_calls 98 w ⟨by decide, by decide⟩
  have lc := fun w => letter_calls 32 w ⟨by decide, by decide⟩
  have ok3 : kit.okI64 3 := ⟨by decide, by decide⟩
  have ok4 : kit.okI64 4 := ⟨by decide, by decide⟩
  have hmd := fun g w' h => made_calls (.slice (some ⟨g, 0, none⟩) 3 3) _ _ w' h abc_made
  have hpk := fun vr vt w' h => pack_calls vr vt abcR abcT w' h abc_chk
  unfold packS at hpk
  unfold abcS
  have hR5 : abcR.length = 5 := rfl
  have hck := abc_chk
  generalize abcR = R at *
  generalize abcT = T at *
  unfold abcE at hmd
  generalize classL.rangeF 97 97 = ca at *
  generalize classL.rangeF 98 98 = cb at *
  generalize classL.rangeF 32 32 = cc at *
  have hmd : ∀ (g : Nat) (w' : World), SlF rexS (Low w') w' (.slice (some ⟨g, 0, none⟩) 3 3) [.mk 3 ca [], .mk 4 C4.zero [.mk 3 ca [], .mk 3 cb []], .mk 4 C4.zero [.mk 3 cc [], .mk 6 C4.zero [.mk 3 cc []]]] → Calls Try.prog 19 #[.slice (some ⟨g, 0, none⟩) 3 3] w' (Meets (mdSp (R, T, true)) w') := hmd
  refine enter (args := []) (n := 24) Try.func6 rfl rfl rfl ?_
  refine T_seq (T_region (TL_new rfl fun g0 => ?_))
  rw [zero_pk]
  conv => arg 8; simp only [zA, zB, zC, zD, zE, zF, zG, zH, zI, rowS, ret, id_eq]
  repeat (first
    | refine qv rfl (qp rfl) rfl rfl ?_ | refine TL_nil ?_ | refine T_seq ?_ | refine T_region ?_ | refine T_ret ?_ | refine E_then ?_ | refine E_thenR ?_)
  refine TL_call (he1 EntersC.en rfl rfl) (fun w hm => la _) rfl rfl rfl ?_
  intro _ _
  conv => arg 8; simp only [zA, zB, zC, zD, zE, zF, zG, zH, zI, rowS, ret, id_eq]
  repeat (first
    | refine qv rfl (qp rfl) rfl rfl ?_ | refine TL_nil ?_ | refine T_seq ?_ | refine T_region ?_ | refine T_ret ?_ | refine E_then ?_ | refine E_thenR ?_)
  refine TL_call (he1 EntersC.en rfl rfl) (fun w hm => la _) rfl rfl rfl ?_
  intro _ _
  conv => arg 8; simp only [zA, zB, zC, zD, zE, zF, zG, zH, zI, rowS, ret, id_eq]
  repeat (first
    | refine qv rfl (qp rfl) rfl rfl ?_ | refine TL_nil ?_ | refine T_seq ?_ | refine T_region ?_ | refine T_ret ?_ | refine E_then ?_ | refine E_thenR ?_)
  refine TL_call (he1 EntersC.en rfl rfl) (fun w hm => lb _) rfl rfl rfl ?_
  intro _ _
  conv => arg 8; simp only [zA, zB, zC, zD, zE, zF, zG, zH, zI, rowS, ret, id_eq]
  repeat (first
    | refine qv rfl (qp rfl) rfl rfl ?_ | refine TL_nil ?_ | refine T_seq ?_ | refine T_region ?_ | refine T_ret ?_ | refine E_then ?_ | refine E_thenR ?_)
  refine TL_call (he3 EntersC.en rfl rfl rfl rfl) (fun w hm => two_calls 4 3 3 ca cb none none 0 0 0 0 w) rfl rfl rfl ?_
  intro g9 _
  conv => arg 8; simp only [zA, zB, zC, zD, zE, zF, zG, zH, zI, rowS, ret, id_eq, twoS]
  repeat (first
    | refine qv rfl (qp rfl) rfl rfl ?_ | refine TL_nil ?_ | refine T_seq ?_ | refine T_region ?_ | refine T_ret ?_ | refine E_then ?_ | refine E_thenR ?_)
  refine TL_call (he1 EntersC.en rfl rfl) (fun w hm => lc _) rfl rfl rfl ?_
  intro _ _
  conv => arg 8; simp only [zA, zB, zC, zD, zE, zF, zG, zH, zI, rowS, ret, id_eq]
  repeat (first
    | refine qv rfl (qp rfl) rfl rfl ?_ | refine TL_nil ?_ | refine T_seq ?_ | refine T_region ?_ | refine T_ret ?_ | refine E_then ?_ | refine E_thenR ?_)
  refine TL_call (he1 EntersC.en rfl rfl) (fun w hm => lc _) rfl rfl rfl ?_
  intro _ _
  conv => arg 8; simp only [zA, zB, zC, zD, zE, zF, zG, zH, zI, rowS, ret, id_eq]
  repeat (first
    | refine qv rfl (qp rfl) rfl rfl ?_ | refine TL_nil ?_ | refine T_seq ?_ | refine T_region ?_ | refine T_ret ?_ | refine E_then ?_ | refine E_thenR ?_)
  refine TL_call (he1 EntersC.en rfl rfl) (fun w hm => star_calls 3 cc none 0 0 w) rfl rfl rfl ?_
  intro g12 _
  conv => arg 8; simp only [zA, zB, zC, zD, zE, zF, zG, zH, zI, rowS, ret, id_eq, starS]
  repeat (first
    | refine qv rfl (qp rfl) rfl rfl ?_ | refine TL_nil ?_ | refine T_seq ?_ | refine T_region ?_ | refine T_ret ?_ | refine E_then ?_ | refine E_thenR ?_)
  refine TL_call (he3 EntersC.en rfl rfl rfl rfl) (fun w hm => two_calls 4 3 6 cc C4.zero none (some ⟨g12, 0, none⟩) 0 1 0 1 w) rfl rfl rfl ?_
  intro g13 _
  conv => arg 8; simp only [zA, zB, zC, zD, zE, zF, zG, zH, zI, rowS, ret, id_eq, twoS]
  repeat (first
    | refine qv rfl (qp rfl) rfl rfl ?_ | refine TL_nil ?_ | refine T_seq ?_ | refine T_region ?_ | refine T_ret ?_ | refine E_then ?_ | refine E_thenR ?_)
  refine TL_litN (cs := [rexC 3 ca (.slice none 0 0), rexC 4 C4.zero (.slice (some ⟨g9, 0, none⟩) 2 2), rexC 4 C4.zero (.slice (some ⟨g13, 0, none⟩) 2 2)].flatten.toArray) [rexV 3 ca (.slice none 0 0), rexV 4 C4.zero (.slice (some ⟨g9, 0, none⟩) 2 2), rexV 4 C4.zero (.slice (some ⟨g13, 0, none⟩) 2 2)] rfl rfl rfl (by intro v hv; simp only [List.mem_cons, List.not_mem_nil, or_false] at hv; rcases hv with rfl | rfl | rfl <;> rfl) rfl rfl rfl fun g14 => ?_
  conv => arg 8; simp only [zA, zB, zC, zD, zE, zF, zG, zH, zI, rowS, ret, id_eq]
  refine TL_call (he1 EntersC.en rfl rfl) (fun w hm => hmd g14 w (rexs_3 (hm.get (i := 4) rfl) (leaf_rex ok3) (two_rexK ok4 (hm.get (i := 1) rfl) (leaf_rex ok3) (leaf_rex ok3)) (two_rexK ok4 (hm.get (i := 3) rfl) (leaf_rex ok3) (star_rexK (hm.get (i := 2) rfl) (leaf_rex ok3))))) rfl rfl rfl ?_
  rintro ⟨vrr, vtt⟩ _
  conv => arg 8; simp only [zA, zB, zC, zD, zE, zF, zG, zH, zI, rowS, ret, id_eq, mdSp, dfaV]
  conv => arg 7; simp only [mdSp, dfaV]
  refine TL_pick [0, 5, 6] (by decide) rfl ?_
  refine TL_slv (i := 1) rfl fun _ a1 => TL_slv (i := 2) rfl fun _ a2 => ?_
  repeat (first
    | refine qv rfl (qp rfl) rfl rfl ?_ | refine TL_nil ?_ | refine T_seq ?_ | refine T_region ?_ | refine T_ret ?_ | refine E_then ?_ | refine E_thenR ?_)
  refine TL_new rfl fun g1 => ?_
  conv => arg 8; simp only [zA, zB, zC, zD, zE, zF, zG, zH, zI, rowS, ret, id_eq]
  refine TL_storeB (i := 3) (cs' := #[vrr, vtt]) rfl rfl rfl rfl (by simp only [List.all_cons, List.all_nil, a1, a2]; rfl) rfl ?_
  conv => arg 8; simp only [zA, zB, zC, zD, zE, zF, zG, zH, zI, rowS, ret, id_eq]
  clear hmd
  repeat (first
    | refine qv rfl (qp rfl) rfl rfl ?_ | refine TL_nil ?_ | refine T_seq ?_ | refine T_region ?_ | refine T_ret ?_ | refine E_then ?_ | refine E_thenR ?_
    | refine qv rfl (rr_loadB (i := 3) TyC.ty rfl rfl rfl) rfl rfl ?_)
  refine TL_call (he1 EntersC.en rfl rfl) (fun w hm => hpk _ _ w (hm.dfaM (i := 1) (j := 2) rfl (by rw [int_flat]; rfl) hck)) rfl rfl rfl ?_
  rintro ⟨gN, vs, vT⟩ _
  conv => arg 8; simp only [zA, zB, zC, zD, zE, zF, zG, zH, zI, rowS, ret, id_eq]
  refine TL_slv (i := 6) rfl fun _ a3 => ?_
  repeat (first
    | refine qv rfl (qp rfl) rfl rfl ?_ | refine TL_nil ?_ | refine T_seq ?_ | refine T_region ?_ | refine T_ret ?_ | refine E_then ?_ | refine E_thenR ?_)
  refine TL_new rfl fun g3 => ?_
  rw [zero_pk]
  conv => arg 8; simp only [zA, zB, zC, zD, zE, zF, zG, zH, zI, rowS, ret, id_eq]
  refine TL_storeB (i := 7) (cs' := (pkC (ofS R 256) (.slice (some ⟨gN, 0, none⟩) R.length R.length) vT).toArray) rfl rfl rfl (pk_size _ _ _) (pk_one _ rfl a3) (pk_size _ _ _) ?_
  conv => arg 8; simp only [zA, zB, zC, zD, zE, zF, zG, zH, zI, rowS, ret, id_eq]
  repeat (first
    | refine qv rfl (qp rfl) rfl rfl ?_ | refine TL_nil ?_ | refine T_seq ?_ | refine T_region ?_ | refine T_ret ?_ | refine E_then ?_ | refine E_thenR ?_
    | refine qv rfl (rr_loadB (i := 7) TyC.ty rfl rfl (pk_size _ _ _)) rfl rfl ?_)
  refine TL_storeB (i := 0) (cs' := (pkC (ofS R 256) (.slice (some ⟨gN, 0, none⟩) R.length R.length) vT).toArray) rfl rfl rfl (pk_size _ _ _) (pk_one _ rfl a3) (pk_size _ _ _) ?_
  conv => arg 8; simp only [zA, zB, zC, zD, zE, zF, zG, zH, zI, rowS, ret, id_eq]
  repeat (first
    | refine qv rfl (qp rfl) rfl rfl ?_ | refine TL_nil ?_ | refine T_seq ?_ | refine T_region ?_ | refine T_ret ?_ | refine E_then ?_ | refine E_thenR ?_)
  exact E_retc1 (i := 0) rfl rfl rfl (pk_size _ _ _) fun w hm => hm.meets (S := ⟨fun (_ : Nat × (Nat → Value) × Value) => True, fun x => pkV (ofS R 256) (.slice (some ⟨x.1, 0, none⟩) R.length R.length) x.2.2, fun x => [rowA 24 valV x.1 R.length x.2.1, nxO R.length (pkD R 256) x.2.1, rowO 3 1 x.2.2 T.length (T.flatMap kit.intC)]⟩) (gN, vs, vT) trivial [4, 5, 6] (by decide) rfl
end Go.Proofs.Ytkmemlnkijinlaa.eng

/- FeedD -/
namespace Go.Proofs.Ytkmemlnkijinlaa.lexL
open Go.RowKit kit mix eng smallL dfaP
/-- what waits is the end of what came; and it is not settled -/
theorem feed_keep {o : Of} {N : List (List Int)} {tags : List Int} : ∀ (s : List UInt8) (a : Nat) (u : List UInt8), (lookF o N tags u).2 = false → (feedGo o N tags s a u).2.2.2 = 0 →
    a ≤ (feedGo o N tags s a u).2.1 ∧ (feedGo o N tags s a u).2.1 ≤ a + (u ++ s).length ∧ (feedGo o N tags s a u).2.2.1 = (u ++ s).drop ((feedGo o N tags s a u).2.1 - a) ∧ (lookF o N tags (feedGo o N tags s a u).2.2.1).2 = false
  | [], a, u, h, _ => ⟨Nat.le_refl _, Nat.le_add_right _ _, by show u = (u ++ []).drop (a - a); simp, h⟩
  | b :: s, a, u, h, he => by
    rw [feedGo_cons] at he ⊢
    have hk := drain_keep (o := o) (N := N) (tags := tags) (u.length + 2) a (u ++ [b]) (by rw [List.length_append]; exact Nat.lt_succ_self _)
    generalize drainF o N tags (u.length + 2) a (u ++ [b]) = D at *
    obtain ⟨d1, d2, d3, d4⟩ := D
    dsimp only at hk he ⊢
    obtain ⟨k1, k2, k3, k4⟩ := hk
    by_cases c1 : d4 ≠ 0
    · rw [if_pos c1] at he; cases he
    · rw [if_neg c1] at he ⊢
      by_cases c2 : 64 < d3.length
      · rw [if_pos c2] at he; cases he
      · rw [if_neg c2] at he ⊢
        dsimp only at he ⊢
        have k5 := (k4.resolve_left (by omega)).2
        obtain ⟨m1, m2, m3, m4⟩ := feed_keep s d2 d3 k5 he
        have hl : (u ++ [b]).length = u.length + 1 := by rw [List.length_append]; rfl
        have hl2 : d3.length = u.length + 1 - (d2 - a) := by rw [k3, List.length_drop, hl]
        have hl3 : (u ++ b :: s).length = u.length + 1 + s.length := by rw [List.length_append, List.length_cons]; omega
        have hl4 : (d3 ++ s).length = d3.length + s.length := List.length_append ..
        rw [hl] at k2
        refine ⟨by omega, by omega, ?_, m4⟩
        rw [m3]
        have e1 : u ++ b :: s = (u ++ [b]) ++ s := by simp
        have e2 : d3 ++ s = ((u ++ [b]) ++ s).drop (d2 - a) := by
          rw [List.drop_append_of_le_length (by omega), k3]
        rw [e2, e1, List.drop_drop]
        congr 1; omega
theorem feed_err {o : Of} {N : List (List Int)} {tags : List Int} : ∀ (s : List UInt8) (a : Nat) (u : List UInt8), (feedGo o N tags s a u).2.2.2 ≠ 0 → (feedGo o N tags s a u).2.2.1 = []
  | [], _, _, h => absurd rfl h
  | b :: s, a, u, h => by
    rw [feedGo_cons] at h ⊢
    generalize drainF o N tags (u.length + 2) a (u ++ [b]) = D at *
    by_cases c1 : D.2.2.2 ≠ 0
    · rw [if_pos c1]
    · rw [if_neg c1] at h ⊢
      by_cases c2 : 64 < D.2.2.1.length
      · rw [if_pos c2]
      · rw [if_neg c2] at h ⊢
        exact feed_err s _ _ h
end Go.Proofs.Ytkmemlnkijinlaa.lexL
namespace Go.Proofs.Ytkmemlnkijinlaa.eng
open Go.RowKit kit mix smallL lexL
set_option maxHeartbeats 4000000 in
theorem feedErr_calls (o : Of) (vn vt : Value) (N : List (List Int)) (tags : List Int) (a : Int) (u : List UInt8) (e : Int) (s : List UInt8) (c : Int) (w : World) (h : PkI w vn vt N tags) (ho : ∀ b (h : b < 256), o[b] < 256) (hu : u.length ≤ 9223372036854775807) (hc : (chkH (chkP o N tags) a u e ≠ 0 ∧ c = chkH (chkP o N tags) a u e) ∨ (chkH (chkP o N tags) a u e = 0 ∧ 2000 < s.length ∧ c = 2)) (hs : s.length ≤ 9223372036854775807) :
    Calls Try.prog 11 #[pkV o vn vt, .agg (heldC a u e).toArray, str s] w (Meets (ret (.tuple #[.agg (heldC a u e).toArray, .slice none 0 0, .int .i64 c])) w) := by
  have hck := fun w' (hg : Gr w w') => feedCheck_calls o vn vt N tags a u e w' (h.gr hg) ho hu
  obtain ⟨⟨an, cn, rfl, -⟩, at', ct, rfl, -⟩ := h
  generalize chkH (chkP o N tags) a u e = x at *
  refine enter (args := [pkV o (.slice an N.length cn) (.slice at' tags.length ct), .agg (heldC a u e).toArray, str s]) (n := 79) Try.func11 rfl rfl rfl ?_
  refine T_seq (T_region (TL_box rfl rfl rfl fun g3 => TL_box rfl rfl rfl fun g4 => TL_new rfl fun g6 => ?_))
  conv => arg 8; simp only [zA, zB, zC, zD, zE, zF, zG, zH, zI, rowS, ret, id_eq]
  repeat (first
    | refine qv rfl (qp rfl) rfl rfl ?_ | refine TL_nil ?_ | refine T_seq ?_ | refine T_region ?_ | refine qcT rfl ?_ | refine qcF rfl ?_ | refine T_skip ?_
    | refine T_exit ?_ | refine T_ret ?_ | refine T_block ?_ | refine E_then ?_ | refine E_thenX ?_ | refine E_thenR ?_ | refine E_blockN ?_
    | refine E_blockR ?_ | refine E_blockX ?_ | refine E_blockO rfl ?_ | refine qv rfl (rr_loadB (i := 0) TyC.ty rfl rfl (pk_size _ _ _)) rfl rfl ?_
    | refine qv rfl (rr_loadB (i := 1) TyC.ty rfl rfl rfl) rfl rfl ?_ | refine qv rfl (rr_strlen Und.eq rfl) rfl rfl ?_
    | refine qv rfl (qfld FldC.fld rfl rfl) rfl rfl ?_ | refine qv rfl (rr_not rfl rfl) rfl rfl ?_
    | refine qv rfl (rr_lss rfl rfl (qT (by omega))) rfl rfl ?_ | refine qv rfl (rr_lss rfl rfl (qF (by omega))) rfl rfl ?_
    | refine qv rfl (rr_gtr rfl rfl (qT (by omega))) rfl rfl ?_ | refine qv rfl (rr_gtr rfl rfl (qF (by omega))) rfl rfl ?_
    | refine qv rfl (rr_eql rfl rfl (qT (by omega))) rfl rfl ?_ | refine qv rfl (rr_eql rfl rfl (qF (by omega))) rfl rfl ?_
    | refine qv rfl (rr_neq rfl rfl (qT (by omega))) rfl rfl ?_ | refine qv rfl (rr_neq rfl rfl (qF (by omega))) rfl rfl ?_
    | refine qv rfl (rr_add64 rfl rfl (by omega) (by omega) rfl) rfl rfl ?_)
  refine TL_call (he2 EntersC.en rfl rfl rfl) (fun w hm => hck _ hm.below) rfl rfl rfl ?_
  intro _ _
  conv => arg 8; simp only [zA, zB, zC, zD, zE, zF, zG, zH, zI, rowS, ret, id_eq]
  clear hck
  rcases hc with ⟨h1, rfl⟩ | ⟨rfl, h2, rfl⟩
  · repeat (first
      | refine qv rfl (qp rfl) rfl rfl ?_ | refine TL_nil ?_ | refine T_seq ?_ | refine T_region ?_ | refine qcT rfl ?_ | refine qcF rfl ?_ | refine T_skip ?_
      | refine T_exit ?_ | refine T_ret ?_ | refine T_block ?_ | refine E_then ?_ | refine E_thenX ?_ | refine E_thenR ?_ | refine E_blockN ?_
      | refine E_blockR ?_ | refine E_blockX ?_ | refine E_blockO rfl ?_ | refine qv rfl (rr_neq (b := true) rfl rfl (decide_eq_true h1)) rfl rfl ?_
      | refine qv rfl (rr_loadB (i := 1) TyC.ty rfl rfl rfl) rfl rfl ?_ | refine qv rfl (rr_strlen Und.eq rfl) rfl rfl ?_
      | refine qv rfl (qfld FldC.fld rfl rfl) rfl rfl ?_ | refine qv rfl (rr_not rfl rfl) rfl rfl ?_
      | refine qv rfl (rr_lss rfl rfl (qT (by omega))) rfl rfl ?_ | refine qv rfl (rr_lss rfl rfl (qF (by omega))) rfl rfl ?_
      | refine qv rfl (rr_gtr rfl rfl (qT (by omega))) rfl rfl ?_ | refine qv rfl (rr_gtr rfl rfl (qF (by omega))) rfl rfl ?_
      | refine qv rfl (rr_eql rfl rfl (qT (by omega))) rfl rfl ?_ | refine qv rfl (rr_eql rfl rfl (qF (by omega))) rfl rfl ?_
      | refine qv rfl (rr_neq rfl rfl (qT (by omega))) rfl rfl ?_ | refine qv rfl (rr_neq rfl rfl (qF (by omega))) rfl rfl ?_
      | refine qv rfl (rr_add64 rfl rfl (by omega) (by omega) rfl) rfl rfl ?_)
    refine TL_storeB (i := 2) (cs' := (heldC a u e).toArray) rfl rfl rfl rfl rfl rfl ?_
    conv => arg 8; simp only [zA, zB, zC, zD, zE, zF, zG, zH, zI, rowS, ret, id_eq]
    repeat (first
      | refine qv rfl (qp rfl) rfl rfl ?_ | refine TL_nil ?_ | refine T_seq ?_ | refine T_region ?_ | refine qcT rfl ?_ | refine qcF rfl ?_ | refine T_skip ?_
      | refine T_exit ?_ | refine T_ret ?_ | refine T_block ?_ | refine E_then ?_ | refine E_thenX ?_ | refine E_thenR ?_ | refine E_blockN ?_
      | refine E_blockR ?_ | refine E_blockX ?_ | refine E_blockO rfl ?_ | refine qv rfl (rr_strlen Und.eq rfl) rfl rfl ?_
      | refine qv rfl (qfld FldC.fld rfl rfl) rfl rfl ?_ | refine qv rfl (rr_not rfl rfl) rfl rfl ?_
      | refine qv rfl (rr_lss rfl rfl (qT (by omega))) rfl rfl ?_ | refine qv rfl (rr_lss rfl rfl (qF (by omega))) rfl rfl ?_
      | refine qv rfl (rr_gtr rfl rfl (qT (by omega))) rfl rfl ?_ | refine qv rfl (rr_gtr rfl rfl (qF (by omega))) rfl rfl ?_
      | refine qv rfl (rr_eql rfl rfl (qT (by omega))) rfl rfl ?_ | refine qv rfl (rr_eql rfl rfl (qF (by omega))) rfl rfl ?_
      | refine qv rfl (rr_neq rfl rfl (qT (by omega))) rfl rfl ?_ | refine qv rfl (rr_neq rfl rfl (qF (by omega))) rfl rfl ?_
      | refine qv rfl (rr_add64 rfl rfl (by omega) (by omega) rfl) rfl rfl ?_)
    exact E_retc3 (i := 2) rfl rfl rfl rfl rfl rfl fun w hm => hm.ret
  · repeat (first
      | refine qv rfl (qp rfl) rfl rfl ?_ | refine TL_nil ?_ | refine T_seq ?_ | refine T_region ?_ | refine qcT rfl ?_ | refine qcF rfl ?_ | refine T_skip ?_
      | refine T_exit ?_ | refine T_ret ?_ | refine T_block ?_ | refine E_then ?_ | refine E_thenX ?_ | refine E_thenR ?_ | refine E_blockN ?_
      | refine E_blockR ?_ | refine E_blockX ?_ | refine E_blockO rfl ?_ | refine qv rfl (rr_neq (b := false) rfl rfl (decide_eq_false (by decide))) rfl rfl ?_
      | refine qv rfl (rr_gtr (b := true) rfl rfl (decide_eq_true (by omega))) rfl rfl ?_ | refine qv rfl (rr_loadB (i := 1) TyC.ty rfl rfl rfl) rfl rfl ?_
      | refine qv rfl (rr_strlen Und.eq rfl) rfl rfl ?_ | refine qv rfl (qfld FldC.fld rfl rfl) rfl rfl ?_ | refine qv rfl (rr_not rfl rfl) rfl rfl ?_
      | refine qv rfl (rr_lss rfl rfl (qT (by omega))) rfl rfl ?_ | refine qv rfl (rr_lss rfl rfl (qF (by omega))) rfl rfl ?_
      | refine qv rfl (rr_gtr rfl rfl (qT (by omega))) rfl rfl ?_ | refine qv rfl (rr_gtr rfl rfl (qF (by omega))) rfl rfl ?_
      | refine qv rfl (rr_eql rfl rfl (qT (by omega))) rfl rfl ?_ | refine qv rfl (rr_eql rfl rfl (qF (by omega))) rfl rfl ?_
      | refine qv rfl (rr_neq rfl rfl (qT (by omega))) rfl rfl ?_ | refine qv rfl (rr_neq rfl rfl (qF (by omega))) rfl rfl ?_
      | refine qv rfl (rr_add64 rfl rfl (by omega) (by omega) rfl) rfl rfl ?_)
    refine TL_storeB (i := 2) (cs' := (heldC a u e).toArray) rfl rfl rfl rfl rfl rfl ?_
    conv => arg 8; simp only [zA, zB, zC, zD, zE, zF, zG, zH, zI, rowS, ret, id_eq]
    repeat (first
      | refine qv rfl (qp rfl) rfl rfl ?_ | refine TL_nil ?_ | refine T_seq ?_ | refine T_region ?_ | refine qcT rfl ?_ | refine qcF rfl ?_ | refine T_skip ?_
      | refine T_exit ?_ | refine T_ret ?_ | refine T_block ?_ | refine E_then ?_ | refine E_thenX ?_ | refine E_thenR ?_ | refine E_blockN ?_
      | refine E_blockR ?_ | refine E_blockX ?_ | refine E_blockO rfl ?_ | refine qv rfl (rr_strlen Und.eq rfl) rfl rfl ?_
      | refine qv rfl (qfld FldC.fld rfl rfl) rfl rfl ?_ | refine qv rfl (rr_not rfl rfl) rfl rfl ?_
      | refine qv rfl (rr_lss rfl rfl (qT (by omega))) rfl rfl ?_ | refine qv rfl (rr_lss rfl rfl (qF (by omega))) rfl rfl ?_
      | refine qv rfl (rr_gtr rfl rfl (qT (by omega))) rfl rfl ?_ | refine qv rfl (rr_gtr rfl rfl (qF (by omega))) rfl rfl ?_
      | refine qv rfl (rr_eql rfl rfl (qT (by omega))) rfl rfl ?_ | refine qv rfl (rr_eql rfl rfl (qF (by omega))) rfl rfl ?_
      | refine qv rfl (rr_neq rfl rfl (qT (by omega))) rfl rfl ?_ | refine qv rfl (rr_neq rfl rfl (qF (by omega))) rfl rfl ?_
      | refine qv rfl (rr_add64 rfl rfl (by omega) (by omega) rfl) rfl rfl ?_)
    exact E_retc3 (i := 2) rfl rfl rfl rfl rfl rfl fun w hm => hm.ret
end Go.Proofs.Ytkmemlnkijinlaa.eng

/- FeedE -/
namespace Go.Proofs.Ytkmemlnkijinlaa.lexL
open Go.RowKit kit mix eng smallL dfaP
theorem feed_small {o : Of} {N : List (List Int)} {tags : List Int} : ∀ (s : List UInt8) (a : Nat) (u : List UInt8), u.length ≤ 64 → (feedGo o N tags s a u).2.2.1.length ≤ 64 ∧ ((feedGo o N tags s a u).2.2.2 = 0 ∨ (feedGo o N tags s a u).2.2.2 = 9 ∨ (feedGo o N tags s a u).2.2.2 = 10)
  | [], _, _, h => ⟨h, .inl rfl⟩
  | b :: s, a, u, h => by
    rw [feedGo_cons]
    generalize drainF o N tags (u.length + 2) a (u ++ [b]) = D at *
    by_cases c1 : D.2.2.2 ≠ 0
    · rw [if_pos c1]; exact ⟨Nat.zero_le _, .inr (.inl rfl)⟩
    · rw [if_neg c1]
      by_cases c2 : 64 < D.2.2.1.length
      · rw [if_pos c2]; exact ⟨Nat.zero_le _, .inr (.inr rfl)⟩
      · rw [if_neg c2]; exact feed_small s _ _ (by omega)
end Go.Proofs.Ytkmemlnkijinlaa.lexL

/- FeedQ -/
namespace Go.Proofs.Ytkmemlnkijinlaa.lexL
open Go.RowKit kit mix eng smallL
theorem look_nil (o : Of) (N : List (List Int)) (tags : List Int) : (lookF o N tags []).2 = false := rfl
theorem fed_law {o : Of} {N : List (List Int)} {tags : List Int} (hg : PkGood o N tags) (s : List UInt8) :
    ((fedF o N tags s).2.2.2 = 10 ∧ ∃ l x y, lexGo o N tags s (s.length + 1) 0 = ((fedF o N tags s).1 ++ l, x, y)) ∨
    (fedF o N tags s = ((lexGo o N tags s (s.length + 1) 0).1, (lexGo o N tags s (s.length + 1) 0).2.1, 9, 9) ∧ (lexGo o N tags s (s.length + 1) 0).2.2 = 9) ∨
    (fedF o N tags s = ((lexGo o N tags s (s.length + 1) 0).1, s.length, 15, 0) ∧ (lexGo o N tags s (s.length + 1) 0).2 = (0, 0)) := by
  obtain ⟨h1, F, h2, h3⟩ := feed_lex hg (full := s) (m := []) s 0 [] (s.length + 1) (by simp) (by omega)
  obtain ⟨_, h4⟩ := feed_small (o := o) (N := N) (tags := tags) s 0 [] (by decide)
  have hk := feed_keep (o := o) (N := N) (tags := tags) s 0 [] (look_nil o N tags)
  unfold fedF
  generalize lexGo o N tags s (s.length + 1) 0 = W at *
  generalize feedGo o N tags s 0 [] = G at *
  obtain ⟨out, a, u, e⟩ := G
  dsimp only at h1 h2 h3 h4 hk ⊢
  rcases h4 with rfl | rfl | rfl
  · rw [if_neg (by decide)]
    obtain ⟨_, k2, k3, _⟩ := hk rfl
    rw [List.nil_append] at k2 k3
    rw [Nat.sub_zero] at k3
    have h3 := h3 (by decide)
    have hul : u.length = s.length - a := by rw [k3, List.length_drop]
    have he := end_lex (o := o) (N := N) (tags := tags) (full := s) (u.length + 1) a u F (Nat.lt_succ_self _) k3.symm (by omega) h2
    generalize endF o N tags (u.length + 1) a u = X at *
    obtain ⟨x1, x2, x3⟩ := X
    dsimp only at he ⊢
    rcases he with ⟨rfl, he⟩ | ⟨hx, he⟩
    · right; left
      rw [he] at h3
      subst h3
      exact ⟨by rw [if_neg (by decide)], rfl⟩
    · right; right
      rw [he] at h3
      subst h3
      simp only [Prod.mk.injEq] at hx
      obtain ⟨rfl, rfl⟩ := hx
      exact ⟨by rw [if_pos rfl], rfl⟩
  · rw [if_pos (by decide)]
    right; left
    rw [h1 rfl]
    exact ⟨rfl, rfl⟩
  · rw [if_pos (by decide)]
    left
    exact ⟨rfl, _, _, _, h3 (by decide)⟩
theorem fed_cnt {o : Of} {N : List (List Int)} {tags : List Int} (s : List UInt8) : (fedF o N tags s).1.length ≤ s.length := by
  have h1 := feed_cnt (o := o) (N := N) (tags := tags) s 0 []
  unfold fedF
  generalize feedGo o N tags s 0 [] = G at *
  obtain ⟨out, a, u, e⟩ := G
  dsimp only [List.length_nil] at h1 ⊢
  by_cases c : e ≠ 0
  · rw [if_pos c]; dsimp only; omega
  · rw [if_neg c]
    have h2 := end_cnt (o := o) (N := N) (tags := tags) (u.length + 1) a u
    dsimp only
    rw [List.length_append]
    omega
end Go.Proofs.Ytkmemlnkijinlaa.lexL

/- AppR -/
namespace Go.Proofs.Ytkmemlnkijinlaa.eng
open Go.RowKit kit mix
/-- one own row is appended to another -/
theorem TL_appRw {P : Program} {n : Nat} {W : World} {fr : Fr} {L : List Own} {ops : Array Oper} {Q : Exit → Act → World → Prop} {rest : List Oper} {d : Nat} {ty : TypeId} {pos : String} {after : Array Edge} {t e : TypeId} {s x : Operand} {i j size bytes m k : Nat} {v v2 : Value} {xs ys : List Value} [hel : ElC P t e size bytes] (hi : L[i]? = some (rowO e size v m xs)) (hj : L[j]? = some (rowO e size v2 k ys)) (hs : ev fr s = some v) (hx : ev fr x = some v2)
    (h1 : ∀ u ∈ ys, u.oneCell' = true) (h63 : m + k ≤ 140737488355328) (hb : (m + k) * bytes ≤ 140737488355328) (hn : Nat.blt d n = true)
    (h : ∀ v', TL P n W ops Q rest ((d, v') :: fr) (L.set i (rowO e size v' (m + k) (xs ++ ys)))) :
    TL P n W ops Q (⟨some d, .call { callee := .builtin .append, args := #[s, x], argTypes := #[t, t] }, ty, pos, after, none⟩ :: rest) fr L := ⟨fun a w hr hm => by
  have hown : w.ownsRow 0 e size v2 k ys := hm.get hj
  rcases hown.2 with ⟨rfl, rfl⟩ | ⟨g, cap, cur, rfl, _⟩
  · have hy : ys = [] := List.eq_nil_of_length_eq_zero (by rw [hown.1]; simp)
    subst hy
    have hset : L.set i (rowO e size v (m + 0) (xs ++ [])) = L := by
      rw [List.append_nil, Nat.add_zero]
      apply List.ext_getElem?
      intro q
      by_cases hq : i = q
      · subst hq
        rw [List.getElem?_set_self (List.getElem?_eq_some_iff.1 hi).1, hi]
      · rw [List.getElem?_set_ne hq]
    have h2 := h v
    rw [hset] at h2
    exact (TL_append0 hel.el hi hs hx hn h2).go a w hr hm
  · refine (TL_append (c := cap) hel.el hi hs hx (fun q u hq => ?_) hown.1 h1 h63 hb hn h).go a w hr hm
    rw [addr_add, Nat.zero_add]
    exact at_row hj hq⟩
/-- three results, the second one in memory -/
theorem E_retm3 {P : Program} {n : Nat} {W : Base} {fr : Fr} {L : List Own} {fn : Func} {R : Ending → World → Prop} {t u s : Tmp} {T : TypeId} {i g c : Nat} {cs : Array Value} {T' : TypeId} {z y : Value} [hT : TyC P T true c] (hres : fn.results = #[.tmp u, .cell t T, .tmp s]) (hp : look fr t = some (.pointer (some ⟨g, 0, none⟩))) (hi : L[i]? = some (blkO g cs T')) (hc : cs.size = c) (hz : look fr u = some z) (hy : look fr s = some y)
    (h : ∀ w, Mem W L w → R (.returned (.tuple #[z, .agg cs, y])) w) : E n W .ret (bodyPost P fn R) fr L :=
  E_ret fun a w hr hmm => ⟨_, by
    have hload := run_loadCells_list (P := P) w ⟨g, 0, none⟩ cs.toList fun j v hj => by rw [addr_add, Nat.zero_add]; exact at_blk hi (by simpa using hj) w hmm
    have hl : (loadCells ⟨g, 0, none⟩ c).run P w = .ok cs w := by rw [← hc]; simpa using hload
    have hv : (loadVar T ⟨g, 0, none⟩).run P w = .ok (.agg cs) w := by simp [loadVar, hT.ty.agg, hT.ty.size, hl]
    simp [results, hres, Array.getD_eq_getD_getElem?, hr.get t _ hp, hr.get u z hz, hr.get s y hy, asAddr, hv], h w hmm⟩
end Go.Proofs.Ytkmemlnkijinlaa.eng

/- FedF -/
namespace Go.Proofs.Ytkmemlnkijinlaa.eng
open Go.RowKit kit mix smallL lexL
def fedS (R : List Tok × Nat × Int × Int) : Spec Value := ⟨fun _ => True, fun v => .tuple #[v, .agg (heldC (R.2.1 : Int) [] R.2.2.1).toArray, .int .i64 R.2.2.2], fun v => [toksO v R.1]⟩
theorem toks_one (l : List Tok) : ∀ u ∈ l.flatMap tokC, u.oneCell' = true := by
  intro u hu
  obtain ⟨t, _, h⟩ := List.mem_flatMap.1 hu
  exact tok_one t u h
theorem toks_app (v : Value) (l m : List Tok) : toksO v (l ++ m) = rowO 36 3 v (l.length + m.length) (l.flatMap tokC ++ m.flatMap tokC) := by
  rw [toksO, List.length_append, List.flatMap_append]
theorem flat_cons {s : List UInt8} {ps : List (List UInt8)} {i : Nat} (h : i < ps.length) (e : s = ps[i]) : (ps.drop i).flatten = s ++ (ps.drop (i + 1)).flatten := by
  rw [List.drop_eq_getElem_cons h, List.flatten_cons, e]
set_option maxHeartbeats 8000000 in
theorem fed_calls (o : Of) (vn vt vl : Value) (N : List (List Int)) (tags : List Int) (ps : List (List UInt8)) (w : World) (h : PkI w vn vt N tags) (hl : Sl w vl ps.length (ps.map str)) (hc : chkP o N tags = 0) (ho : ∀ b (h : b < 256), o[b] < 256) (hs : ps.flatten.length ≤ 2000) :
    Calls Try.prog 5 #[pkV o vn vt, vl] w (Meets (fedS (fedF o N tags ps.flatten)) w) := by
  have hfd := fun a0 u0 s w' (hg : Gr w w') h1 h2 h3 => feedTok_calls o vn vt N tags a0 u0 s w' (h.gr hg) hc ho h1 h2 h3
  have hen := fun a0 u0 w' (hg : Gr w w') h1 h2 => feedEnd_calls o vn vt N tags a0 u0 w' (h.gr hg) hc ho h1 h2
  obtain ⟨⟨an, cn, rfl, -⟩, at', ct, rfl, -⟩ := h
  obtain ⟨bl, cl, rfl, hcl, hml, hrd⟩ := hl
  unfold maxLen at hml
  have hsm := fun (s : List UInt8) (a : Nat) (u : List UInt8) => feed_small (o := o) (N := N) (tags := tags) s a u
  have hcn := fun (s : List UInt8) (a : Nat) (u : List UInt8) => feed_cnt (o := o) (N := N) (tags := tags) s a u
  have hap := fun (s t : List UInt8) (a : Nat) (u : List UInt8) => feedGo_app (o := o) (N := N) (tags := tags) s t a u
  have her := fun (s : List UInt8) (a : Nat) (u : List UInt8) => feed_err (o := o) (N := N) (tags := tags) s a u
  have hec := fun (f a : Nat) (u : List UInt8) => end_cnt (o := o) (N := N) (tags := tags) f a u
  have hfinE : ∃ G, G = feedGo o N tags ps.flatten 0 [] := ⟨_, rfl⟩
  obtain ⟨G, hG⟩ := hfinE
  have hfed : fedF o N tags ps.flatten = if G.2.2.2 ≠ 0 then (G.1, G.2.1, G.2.2.2, G.2.2.2) else (G.1 ++ (endF o N tags (G.2.2.1.length + 1) G.2.1 G.2.2.1).1, (endF o N tags (G.2.2.1.length + 1) G.2.1 G.2.2.1).2.1, if (endF o N tags (G.2.2.1.length + 1) G.2.1 G.2.2.1).2.2 = 0 then 15 else 9, (endF o N tags (G.2.2.1.length + 1) G.2.1 G.2.2.1).2.2) := by
    rw [hG]; rfl
  refine enter (args := [pkV o (.slice an N.length cn) (.slice at' tags.length ct), .slice bl ps.length cl]) (n := 46) Try.func5 rfl rfl rfl ?_
  refine T_seq (T_region (TL_box rfl rfl rfl fun g2 => ?_))
  conv => arg 8; simp only [zA, zB, zC, zD, zE, zF, zG, zH, zI, rowS, ret, id_eq]
  repeat (first
    | refine qv rfl (qp rfl) rfl rfl ?_ | refine TL_nil ?_ | refine T_seq ?_ | refine T_region ?_ | refine qcT rfl ?_ | refine qcF rfl ?_ | refine T_skip ?_
    | refine T_exit ?_ | refine T_ret ?_ | refine T_block ?_ | refine E_then ?_ | refine E_thenX ?_ | refine E_thenR ?_ | refine E_blockN ?_
    | refine E_blockR ?_ | refine E_blockX ?_ | refine E_blockO rfl ?_ | refine qv rfl (qlen Und.eq rfl) rfl rfl ?_
    | refine qv rfl (rr_lss rfl rfl (qT (by omega))) rfl rfl ?_ | refine qv rfl (rr_lss rfl rfl (qF (by omega))) rfl rfl ?_
    | refine qv rfl (rr_neq rfl rfl (qT (by omega))) rfl rfl ?_ | refine qv rfl (rr_neq rfl rfl (qF (by omega))) rfl rfl ?_
    | refine qv rfl (rr_add64 rfl rfl (by omega) (by omega) rfl) rfl rfl ?_)
  refine TL_new rfl fun g5 => ?_
  conv => arg 8; simp only [zA, zB, zC, zD, zE, zF, zG, zH, zI, rowS, ret, id_eq]
  repeat (first
    | refine qv rfl (qp rfl) rfl rfl ?_ | refine TL_nil ?_ | refine T_seq ?_ | refine T_region ?_ | refine qcT rfl ?_ | refine qcF rfl ?_ | refine T_skip ?_
    | refine T_exit ?_ | refine T_ret ?_ | refine T_block ?_ | refine E_then ?_ | refine E_thenX ?_ | refine E_thenR ?_ | refine E_blockN ?_
    | refine E_blockR ?_ | refine E_blockX ?_ | refine E_blockO rfl ?_ | refine qv rfl (qlen Und.eq rfl) rfl rfl ?_
    | refine qv rfl (rr_lss rfl rfl (qT (by omega))) rfl rfl ?_ | refine qv rfl (rr_lss rfl rfl (qF (by omega))) rfl rfl ?_
    | refine qv rfl (rr_neq rfl rfl (qT (by omega))) rfl rfl ?_ | refine qv rfl (rr_neq rfl rfl (qF (by omega))) rfl rfl ?_
    | refine qv rfl (rr_add64 rfl rfl (by omega) (by omega) rfl) rfl rfl ?_)
  refine T_nil 36 3 ?_
  conv => arg 7; simp only [zA, zB, zC, zD, zE, zF, zG, zH, zI, rowS, ret, id_eq]
  refine T_loop (ι := Nat × Nat × List UInt8 × List Tok × Value) (fun (i, a, u, out, _) => i ≤ ps.length ∧ u.length ≤ 64 ∧ a + u.length + ((ps.drop i).flatten).length ≤ 2000 ∧ out.length ≤ a ∧ (out ++ (feedGo o N tags (ps.drop i).flatten a u).1, (feedGo o N tags (ps.drop i).flatten a u).2) = G) (fun (i, _, _, _, v) => [(2, .pointer (some ⟨g2, 0, none⟩)), (4, v), (5, .pointer (some ⟨g5, 0, none⟩)), (6, .int .i64 0), (11, .slice bl ps.length cl), (12, .int .i64 ps.length), (13, .int .i64 (i : Int))])
    (fun (_, a, u, out, v) => [blkO g2 (pkC o (.slice an N.length cn) (.slice at' tags.length ct)).toArray 26, blkO g5 (heldC (a : Int) u 0).toArray 30, toksO v out]) (fun (i, _, _, _, _) => ps.length - i) (0, 0, [], [], .slice none 0 0) ⟨Nat.zero_le _, Nat.zero_le _, by show 0 + 0 + _ ≤ 2000; rw [List.drop_zero]; omega, Nat.zero_le _, by rw [List.drop_zero, hG]; rfl⟩ (by repeat' (first | exact True.intro | refine And.intro rfl ?_)) rfl ?_
  clear hG
  rintro ⟨i, a, u, out, v⟩ ⟨i1, i2, i3, i4, i5⟩
  dsimp only at i1 i2 i3 i4 i5 ⊢
  by_cases c1 : i < ps.length
  · obtain ⟨s, hsi⟩ : ∃ s, s = ps[i] := ⟨_, rfl⟩
    rw [flat_cons c1 hsi] at i3 i5
    obtain ⟨b, off, rfl, hr⟩ := hrd (by omega)
    have hat := fun (L : List Own) => at_rdm (L := L) hr c1
    rw [← hsi] at hat
    clear hsi hr hrd
    generalize hrest : (ps.drop (i + 1)).flatten = rest at *
    rw [hap] at i5
    rw [List.length_append] at i3
    have h1 := hsm s a u i2
    have h2 := hcn s a u
    have h3 := her s a u
    have hfd1 := hfd a u s
    clear hfd hsm hcn her hap
    generalize feedGo o N tags s a u = D at *
    obtain ⟨d1, d2, d3, d4⟩ := D
    dsimp only at h1 h2 h3 i5
    repeat (first
      | refine qv rfl (qp rfl) rfl rfl ?_ | refine TL_nil ?_ | refine T_seq ?_ | refine T_region ?_ | refine qcT rfl ?_ | refine qcF rfl ?_ | refine T_skip ?_
      | refine T_exit ?_ | refine T_ret ?_ | refine T_block ?_ | refine E_then ?_ | refine E_thenX ?_ | refine E_thenR ?_ | refine E_blockN ?_
      | refine E_blockR ?_ | refine E_blockX ?_ | refine E_blockO rfl ?_ | refine qv rfl (rr_idx1 Und.eq TyC.ty rfl rfl c1) rfl rfl ?_
      | refine qv rfl (rr_load1 TyC.ty rfl (hat _)) rfl rfl ?_ | refine qv rfl (rr_loadB (i := 0) TyC.ty rfl rfl (pk_size _ _ _)) rfl rfl ?_
      | refine qv rfl (rr_loadB (i := 1) TyC.ty rfl rfl rfl) rfl rfl ?_ | refine qv rfl (qlen Und.eq rfl) rfl rfl ?_
      | refine qv rfl (rr_lss rfl rfl (qT (by omega))) rfl rfl ?_ | refine qv rfl (rr_lss rfl rfl (qF (by omega))) rfl rfl ?_
      | refine qv rfl (rr_neq rfl rfl (qT (by omega))) rfl rfl ?_ | refine qv rfl (rr_neq rfl rfl (qF (by omega))) rfl rfl ?_
      | refine qv rfl (rr_add64 rfl rfl (by omega) (by omega) rfl) rfl rfl ?_)
    refine TL_call (he3 EntersC.en rfl rfl rfl rfl) (fun w hm => hfd1 _ hm.below (by omega) i2 (by omega)) rfl rfl rfl ?_
    intro v9 _
    conv => arg 8; simp only [zA, zB, zC, zD, zE, zF, zG, zH, zI, rowS, ret, id_eq, feedS]
    conv => arg 7; simp only [feedS]
    repeat (first
      | refine qv rfl (qp rfl) rfl rfl ?_ | refine TL_nil ?_ | refine T_seq ?_ | refine T_region ?_ | refine qcT rfl ?_ | refine qcF rfl ?_ | refine T_skip ?_
      | refine T_exit ?_ | refine T_ret ?_ | refine T_block ?_ | refine E_then ?_ | refine E_thenX ?_ | refine E_thenR ?_ | refine E_blockN ?_
      | refine E_blockR ?_ | refine E_blockX ?_ | refine E_blockO rfl ?_ | refine qv rfl (qlen Und.eq rfl) rfl rfl ?_
      | refine qv rfl (rr_lss rfl rfl (qT (by omega))) rfl rfl ?_ | refine qv rfl (rr_lss rfl rfl (qF (by omega))) rfl rfl ?_
      | refine qv rfl (rr_neq rfl rfl (qT (by omega))) rfl rfl ?_ | refine qv rfl (rr_neq rfl rfl (qF (by omega))) rfl rfl ?_
      | refine qv rfl (rr_add64 rfl rfl (by omega) (by omega) rfl) rfl rfl ?_)
    refine TL_storeB (i := 1) (cs' := (heldC (d2 : Int) d3 d4).toArray) rfl rfl rfl rfl rfl rfl ?_
    conv => arg 8; simp only [zA, zB, zC, zD, zE, zF, zG, zH, zI, rowS, ret, id_eq]
    repeat (first
      | refine qv rfl (qp rfl) rfl rfl ?_ | refine TL_nil ?_ | refine T_seq ?_ | refine T_region ?_ | refine qcT rfl ?_ | refine qcF rfl ?_ | refine T_skip ?_
      | refine T_exit ?_ | refine T_ret ?_ | refine T_block ?_ | refine E_then ?_ | refine E_thenX ?_ | refine E_thenR ?_ | refine E_blockN ?_
      | refine E_blockR ?_ | refine E_blockX ?_ | refine E_blockO rfl ?_ | refine qv rfl (qlen Und.eq rfl) rfl rfl ?_
      | refine qv rfl (rr_lss rfl rfl (qT (by omega))) rfl rfl ?_ | refine qv rfl (rr_lss rfl rfl (qF (by omega))) rfl rfl ?_
      | refine qv rfl (rr_neq rfl rfl (qT (by omega))) rfl rfl ?_ | refine qv rfl (rr_neq rfl rfl (qF (by omega))) rfl rfl ?_
      | refine qv rfl (rr_add64 rfl rfl (by omega) (by omega) rfl) rfl rfl ?_)
    refine TL_appRw (i := 2) (j := 3) rfl rfl rfl rfl (toks_one _) (by omega) (by omega) rfl fun v' => ?_
    conv => arg 8; simp only [zA, zB, zC, zD, zE, zF, zG, zH, zI, rowS, ret, id_eq]
    clear hfd1
    by_cases c2 : d4 ≠ 0
    · rw [if_pos c2] at i5
      obtain rfl := h3 c2
      subst i5
      rw [if_pos c2] at hfed
      rw [hfed]
      repeat (first
        | refine qv rfl (qp rfl) rfl rfl ?_ | refine TL_nil ?_ | refine T_seq ?_ | refine T_region ?_ | refine qcT rfl ?_ | refine qcF rfl ?_ | refine T_skip ?_
        | refine T_exit ?_ | refine T_ret ?_ | refine T_block ?_ | refine E_then ?_ | refine E_thenX ?_ | refine E_thenR ?_ | refine E_blockN ?_
        | refine E_blockR ?_ | refine E_blockX ?_ | refine E_blockO rfl ?_ | refine qv rfl (rr_neq (b := true) rfl rfl (decide_eq_true c2)) rfl rfl ?_
        | refine qv rfl (qlen Und.eq rfl) rfl rfl ?_ | refine qv rfl (rr_lss rfl rfl (qT (by omega))) rfl rfl ?_
        | refine qv rfl (rr_lss rfl rfl (qF (by omega))) rfl rfl ?_ | refine qv rfl (rr_neq rfl rfl (qT (by omega))) rfl rfl ?_
        | refine qv rfl (rr_neq rfl rfl (qF (by omega))) rfl rfl ?_ | refine qv rfl (rr_add64 rfl rfl (by omega) (by omega) rfl) rfl rfl ?_)
      refine T_ord ([blkO g5 (heldC (d2 : Int) [] d4).toArray 30]) (.calm 0 (.calm 1 (.calm 2 (.calm 3 (.one 4 (.calm 5 (.done))))))) (sub_pick [1] (by decide) rfl) (by kernel_rfl) (by kernel_rfl) (by intro c a d v w h; cases d <;> exact h) ?_
      repeat (first
        | ((first | refine TW_plain rfl rfl ?_ | refine TW_gmet rfl rfl rfl rfl ?_); first | refine TN_val (qp rfl) rfl rfl ?_ | refine TN_val (rr_loadB (i := 0) TyC.ty rfl rfl rfl) rfl rfl ?_ | refine TN_val (qlen Und.eq rfl) rfl rfl ?_ | refine TN_val (rr_lss rfl rfl (qT (by omega))) rfl rfl ?_ | refine TN_val (rr_lss rfl rfl (qF (by omega))) rfl rfl ?_ | refine TN_val (rr_neq rfl rfl (qT (by omega))) rfl rfl ?_ | refine TN_val (rr_neq rfl rfl (qF (by omega))) rfl rfl ?_ | refine TN_val (rr_add64 rfl rfl (by omega) (by omega) rfl) rfl rfl ?_)
        | refine TW_done ?_)
      refine TW_one rfl ?_
      refine TL_storeB (i := 1) (cs' := (heldC (d2 : Int) [] d4).toArray) rfl rfl rfl rfl rfl rfl ?_
      conv => arg 8; simp only [zA, zB, zC, zD, zE, zF, zG, zH, zI, rowS, ret, id_eq]
      refine TW_on (sub_pick [1] (by decide) rfl) ?_
      repeat (first
        | ((first | refine TW_plain rfl rfl ?_ | refine TW_gmet rfl rfl rfl rfl ?_); first | refine TN_val (qp rfl) rfl rfl ?_ | refine TN_val (qlen Und.eq rfl) rfl rfl ?_ | refine TN_val (rr_lss rfl rfl (qT (by omega))) rfl rfl ?_ | refine TN_val (rr_lss rfl rfl (qF (by omega))) rfl rfl ?_ | refine TN_val (rr_neq rfl rfl (qT (by omega))) rfl rfl ?_ | refine TN_val (rr_neq rfl rfl (qF (by omega))) rfl rfl ?_ | refine TN_val (rr_add64 rfl rfl (by omega) (by omega) rfl) rfl rfl ?_)
        | refine TW_done ?_)
      repeat (first
        | refine qv rfl (qp rfl) rfl rfl ?_ | refine TL_nil ?_ | refine T_seq ?_ | refine T_region ?_ | refine qcT rfl ?_ | refine qcF rfl ?_ | refine T_skip ?_
        | refine T_exit ?_ | refine T_ret ?_ | refine T_block ?_ | refine E_then ?_ | refine E_thenX ?_ | refine E_thenR ?_ | refine E_blockN ?_
        | refine E_blockR ?_ | refine E_blockX ?_ | refine E_blockO rfl ?_ | refine qv rfl (qlen Und.eq rfl) rfl rfl ?_
        | refine qv rfl (rr_lss rfl rfl (qT (by omega))) rfl rfl ?_ | refine qv rfl (rr_lss rfl rfl (qF (by omega))) rfl rfl ?_
        | refine qv rfl (rr_neq rfl rfl (qT (by omega))) rfl rfl ?_ | refine qv rfl (rr_neq rfl rfl (qF (by omega))) rfl rfl ?_
        | refine qv rfl (rr_add64 rfl rfl (by omega) (by omega) rfl) rfl rfl ?_)
      exact E_retm3 (i := 1) rfl rfl rfl rfl rfl rfl fun w hm => hm.meets (S := fedS (out ++ d1, d2, d4, d4)) v' trivial [2] (by decide) (by dsimp only [fedS]; rw [toks_app]; rfl)
    · rw [if_neg c2] at i5
      have hd4 : d4 = 0 := by omega
      subst hd4
      repeat (first
        | refine qv rfl (qp rfl) rfl rfl ?_ | refine TL_nil ?_ | refine T_seq ?_ | refine T_region ?_ | refine qcT rfl ?_ | refine qcF rfl ?_ | refine T_skip ?_
        | refine T_exit ?_ | refine T_ret ?_ | refine T_block ?_ | refine E_then ?_ | refine E_thenX ?_ | refine E_thenR ?_ | refine E_blockN ?_
        | refine E_blockR ?_ | refine E_blockX ?_ | refine E_blockO rfl ?_ | refine qv rfl (rr_neq (b := false) rfl rfl (decide_eq_false (by decide))) rfl rfl ?_
        | refine qv rfl (qlen Und.eq rfl) rfl rfl ?_ | refine qv rfl (rr_lss rfl rfl (qT (by omega))) rfl rfl ?_
        | refine qv rfl (rr_lss rfl rfl (qF (by omega))) rfl rfl ?_ | refine qv rfl (rr_neq rfl rfl (qT (by omega))) rfl rfl ?_
        | refine qv rfl (rr_neq rfl rfl (qF (by omega))) rfl rfl ?_ | refine qv rfl (rr_add64 rfl rfl (by omega) (by omega) rfl) rfl rfl ?_)
      refine E_pick [0, 1, 2] (by decide) rfl ?_
      exact E_round (i + 1, d2, d3, out ++ d1, v') ⟨by show i + 1 ≤ ps.length; omega, h1.1, by show d2 + d3.length + ((ps.drop (i + 1)).flatten).length ≤ 2000; rw [hrest]; omega, by show (out ++ d1).length ≤ d2; rw [List.length_append]; omega, by rw [hrest, List.append_assoc]; exact i5⟩ (by show ps.length - (i + 1) < ps.length - i; omega) (by repeat' (first | exact True.intro | refine And.intro rfl ?_)) (by dsimp only; rw [toks_app]; rfl)
  · rw [List.drop_of_length_le (by omega)] at i3 i5
    have i5 : (out ++ [], a, u, (0 : Int)) = G := i5
    rw [List.append_nil] at i5
    subst i5
    rw [if_neg (show ¬ ((0 : Int) ≠ 0) by decide)] at hfed
    rw [hfed]
    dsimp only
    have h1 := hec (u.length + 1) a u
    have hen1 := hen a u
    clear hfd hsm hcn her hap hen hec hfed hrd
    have i3 : a + u.length + 0 ≤ 2000 := i3
    generalize endF o N tags (u.length + 1) a u = X at *
    obtain ⟨x1, x2, x3⟩ := X
    dsimp only at h1 ⊢
    repeat (first
      | refine qv rfl (qp rfl) rfl rfl ?_ | refine TL_nil ?_ | refine T_seq ?_ | refine T_region ?_ | refine qcT rfl ?_ | refine qcF rfl ?_ | refine T_skip ?_
      | refine T_exit ?_ | refine T_ret ?_ | refine T_block ?_ | refine E_then ?_ | refine E_thenX ?_ | refine E_thenR ?_ | refine E_blockN ?_
      | refine E_blockR ?_ | refine E_blockX ?_ | refine E_blockO rfl ?_ | refine qv rfl (rr_loadB (i := 0) TyC.ty rfl rfl (pk_size _ _ _)) rfl rfl ?_
      | refine qv rfl (rr_loadB (i := 1) TyC.ty rfl rfl rfl) rfl rfl ?_ | refine qv rfl (qlen Und.eq rfl) rfl rfl ?_
      | refine qv rfl (rr_lss rfl rfl (qT (by omega))) rfl rfl ?_ | refine qv rfl (rr_lss rfl rfl (qF (by omega))) rfl rfl ?_
      | refine qv rfl (rr_neq rfl rfl (qT (by omega))) rfl rfl ?_ | refine qv rfl (rr_neq rfl rfl (qF (by omega))) rfl rfl ?_
      | refine qv rfl (rr_add64 rfl rfl (by omega) (by omega) rfl) rfl rfl ?_)
    refine TL_call (he2 EntersC.en rfl rfl rfl) (fun w hm => hen1 _ hm.below (by omega) i2) rfl rfl rfl ?_
    intro v10 _
    conv => arg 8; simp only [zA, zB, zC, zD, zE, zF, zG, zH, zI, rowS, ret, id_eq, endS]
    conv => arg 7; simp only [endS]
    repeat (first
      | refine qv rfl (qp rfl) rfl rfl ?_ | refine TL_nil ?_ | refine T_seq ?_ | refine T_region ?_ | refine qcT rfl ?_ | refine qcF rfl ?_ | refine T_skip ?_
      | refine T_exit ?_ | refine T_ret ?_ | refine T_block ?_ | refine E_then ?_ | refine E_thenX ?_ | refine E_thenR ?_ | refine E_blockN ?_
      | refine E_blockR ?_ | refine E_blockX ?_ | refine E_blockO rfl ?_ | refine qv rfl (qlen Und.eq rfl) rfl rfl ?_
      | refine qv rfl (rr_lss rfl rfl (qT (by omega))) rfl rfl ?_ | refine qv rfl (rr_lss rfl rfl (qF (by omega))) rfl rfl ?_
      | refine qv rfl (rr_neq rfl rfl (qT (by omega))) rfl rfl ?_ | refine qv rfl (rr_neq rfl rfl (qF (by omega))) rfl rfl ?_
      | refine qv rfl (rr_add64 rfl rfl (by omega) (by omega) rfl) rfl rfl ?_)
    refine TL_storeB (i := 1) (cs' := (heldC (x2 : Int) [] (if x3 = 0 then 15 else 9)).toArray) rfl rfl rfl rfl rfl rfl ?_
    conv => arg 8; simp only [zA, zB, zC, zD, zE, zF, zG, zH, zI, rowS, ret, id_eq]
    repeat (first
      | refine qv rfl (qp rfl) rfl rfl ?_ | refine TL_nil ?_ | refine T_seq ?_ | refine T_region ?_ | refine qcT rfl ?_ | refine qcF rfl ?_ | refine T_skip ?_
      | refine T_exit ?_ | refine T_ret ?_ | refine T_block ?_ | refine E_then ?_ | refine E_thenX ?_ | refine E_thenR ?_ | refine E_blockN ?_
      | refine E_blockR ?_ | refine E_blockX ?_ | refine E_blockO rfl ?_ | refine qv rfl (qlen Und.eq rfl) rfl rfl ?_
      | refine qv rfl (rr_lss rfl rfl (qT (by omega))) rfl rfl ?_ | refine qv rfl (rr_lss rfl rfl (qF (by omega))) rfl rfl ?_
      | refine qv rfl (rr_neq rfl rfl (qT (by omega))) rfl rfl ?_ | refine qv rfl (rr_neq rfl rfl (qF (by omega))) rfl rfl ?_
      | refine qv rfl (rr_add64 rfl rfl (by omega) (by omega) rfl) rfl rfl ?_)
    refine T_ord ([blkO g5 (heldC (x2 : Int) [] (if x3 = 0 then 15 else 9)).toArray 30]) (.calm 0 (.calm 1 (.calm 3 (.calm 4 (.one 2 (.calm 5 (.one 6 (.calm 7 (.done))))))))) (sub_pick [1] (by decide) rfl) (by kernel_rfl) (by kernel_rfl) (by intro c a d v w h; cases d <;> exact h) ?_
    repeat (first
      | ((first | refine TW_plain rfl rfl ?_ | refine TW_gmet rfl rfl rfl rfl ?_); first | refine TN_val (qp rfl) rfl rfl ?_ | refine TN_val (rr_loadB (i := 0) TyC.ty rfl rfl rfl) rfl rfl ?_ | refine TN_val (qlen Und.eq rfl) rfl rfl ?_ | refine TN_val (rr_lss rfl rfl (qT (by omega))) rfl rfl ?_ | refine TN_val (rr_lss rfl rfl (qF (by omega))) rfl rfl ?_ | refine TN_val (rr_neq rfl rfl (qT (by omega))) rfl rfl ?_ | refine TN_val (rr_neq rfl rfl (qF (by omega))) rfl rfl ?_ | refine TN_val (rr_add64 rfl rfl (by omega) (by omega) rfl) rfl rfl ?_)
      | refine TW_done ?_)
    refine TW_one rfl ?_
    refine TL_appRw (i := 2) (j := 3) rfl rfl rfl rfl (toks_one _) (by omega) (by omega) rfl fun v' => ?_
    conv => arg 8; simp only [zA, zB, zC, zD, zE, zF, zG, zH, zI, rowS, ret, id_eq]
    refine TW_on (sub_pick [1] (by decide) rfl) ?_
    repeat (first
      | ((first | refine TW_plain rfl rfl ?_ | refine TW_gmet rfl rfl rfl rfl ?_); first | refine TN_val (qp rfl) rfl rfl ?_ | refine TN_val (qlen Und.eq rfl) rfl rfl ?_ | refine TN_val (rr_lss rfl rfl (qT (by omega))) rfl rfl ?_ | refine TN_val (rr_lss rfl rfl (qF (by omega))) rfl rfl ?_ | refine TN_val (rr_neq rfl rfl (qT (by omega))) rfl rfl ?_ | refine TN_val (rr_neq rfl rfl (qF (by omega))) rfl rfl ?_ | refine TN_val (rr_add64 rfl rfl (by omega) (by omega) rfl) rfl rfl ?_)
      | refine TW_done ?_)
    refine TW_one rfl ?_
    refine TL_storeB (i := 1) (cs' := (heldC (x2 : Int) [] (if x3 = 0 then 15 else 9)).toArray) rfl rfl rfl rfl rfl rfl ?_
    conv => arg 8; simp only [zA, zB, zC, zD, zE, zF, zG, zH, zI, rowS, ret, id_eq]
    refine TW_on (sub_pick [1] (by decide) rfl) ?_
    repeat (first
      | ((first | refine TW_plain rfl rfl ?_ | refine TW_gmet rfl rfl rfl rfl ?_); first | refine TN_val (qp rfl) rfl rfl ?_ | refine TN_val (qlen Und.eq rfl) rfl rfl ?_ | refine TN_val (rr_lss rfl rfl (qT (by omega))) rfl rfl ?_ | refine TN_val (rr_lss rfl rfl (qF (by omega))) rfl rfl ?_ | refine TN_val (rr_neq rfl rfl (qT (by omega))) rfl rfl ?_ | refine TN_val (rr_neq rfl rfl (qF (by omega))) rfl rfl ?_ | refine TN_val (rr_add64 rfl rfl (by omega) (by omega) rfl) rfl rfl ?_)
      | refine TW_done ?_)
    repeat (first
      | refine qv rfl (qp rfl) rfl rfl ?_ | refine TL_nil ?_ | refine T_seq ?_ | refine T_region ?_ | refine qcT rfl ?_ | refine qcF rfl ?_ | refine T_skip ?_
      | refine T_exit ?_ | refine T_ret ?_ | refine T_block ?_ | refine E_then ?_ | refine E_thenX ?_ | refine E_thenR ?_ | refine E_blockN ?_
      | refine E_blockR ?_ | refine E_blockX ?_ | refine E_blockO rfl ?_ | refine qv rfl (qlen Und.eq rfl) rfl rfl ?_
      | refine qv rfl (rr_lss rfl rfl (qT (by omega))) rfl rfl ?_ | refine qv rfl (rr_lss rfl rfl (qF (by omega))) rfl rfl ?_
      | refine qv rfl (rr_neq rfl rfl (qT (by omega))) rfl rfl ?_ | refine qv rfl (rr_neq rfl rfl (qF (by omega))) rfl rfl ?_
      | refine qv rfl (rr_add64 rfl rfl (by omega) (by omega) rfl) rfl rfl ?_)
    exact E_retm3 (i := 1) rfl rfl rfl rfl rfl rfl fun w hm => hm.meets (S := fedS (out ++ x1, x2, (if x3 = 0 then 15 else 9), x3)) v' trivial [2] (by decide) (by dsimp only [fedS]; rw [toks_app]; rfl)
end Go.Proofs.Ytkmemlnkijinlaa.eng

/- FedE -/
namespace Go.Proofs.Ytkmemlnkijinlaa.lexL
open Go.RowKit kit mix eng smallL dfaP
theorem feed_no10 {o : Of} {N : List (List Int)} {tags : List Int} : ∀ (s : List UInt8) (a : Nat) (u : List UInt8), u.length + s.length ≤ 64 → (feedGo o N tags s a u).2.2.2 ≠ 10
  | [], _, _, _ => by show (0 : Int) ≠ 10; decide
  | b :: s, a, u, h => by
    have hk := drain_keep (o := o) (N := N) (tags := tags) (u.length + 2) a (u ++ [b]) (by rw [List.length_append]; exact Nat.lt_succ_self _)
    have hl : (u ++ [b]).length = u.length + 1 := by rw [List.length_append]; rfl
    rw [feedGo_cons]
    generalize drainF o N tags (u.length + 2) a (u ++ [b]) = D at *
    obtain ⟨d1, d2, d3, d4⟩ := D
    dsimp only at hk ⊢
    rw [List.length_cons] at h
    have h3 : d3.length ≤ u.length + 1 := by rw [hk.2.2.1, List.length_drop, hl]; omega
    by_cases c1 : d4 ≠ 0
    · rw [if_pos c1]; show (9 : Int) ≠ 10; decide
    · rw [if_neg c1, if_neg (by omega)]
      exact feed_no10 s d2 d3 (by omega)
theorem fed_no10 {o : Of} {N : List (List Int)} {tags : List Int} {s : List UInt8} (h : s.length ≤ 64) : (fedF o N tags s).2.2.2 ≠ 10 := by
  have h1 := feed_no10 (o := o) (N := N) (tags := tags) s 0 [] (by simpa using h)
  unfold fedF
  generalize feedGo o N tags s 0 [] = G at *
  obtain ⟨out, a, u, e⟩ := G
  dsimp only at h1 ⊢
  by_cases c : e ≠ 0
  · rw [if_pos c]; exact h1
  · rw [if_neg c]
    have h2 := (end_cnt (o := o) (N := N) (tags := tags) (u.length + 1) a u).2.2
    dsimp only
    omega
set_option maxRecDepth 100000 in
theorem abc_lex4 : lexGo (ofS abcR 256) (pkR abcR) abcT [97, 98, 32, 97] (([97, 98, 32, 97] : List UInt8).length + 1) 0 = ([(1, 0, 2), (2, 2, 3), (0, 3, 4)], 0, 0) := by
  rw [lex_rows (pk_good abc_chk), un_pk abcR (by decide)]
  kernel_rfl
theorem abc_fed4 : fedF (ofS abcR 256) (pkR abcR) abcT ([[97], [98, 32, 97]] : List (List UInt8)).flatten = ([(1, 0, 2), (2, 2, 3), (0, 3, 4)], 4, 15, 0) := by
  show fedF (ofS abcR 256) (pkR abcR) abcT [97, 98, 32, 97] = _
  rcases fed_law (pk_good abc_chk) [97, 98, 32, 97] with ⟨h, _⟩ | ⟨_, h⟩ | ⟨h, _⟩
  · exact absurd h (fed_no10 (by decide))
  · rw [abc_lex4] at h; exact absurd (show (0 : Int) = 9 from h) (by decide)
  · rw [h, abc_lex4]; rfl
end Go.Proofs.Ytkmemlnkijinlaa.lexL
namespace Go.Proofs.Ytkmemlnkijinlaa.eng
open Go.RowKit kit mix smallL lexL
set_option maxHeartbeats 4000000 in
theorem fedErr_calls (o : Of) (vn vt vl : Value) (N : List (List Int)) (tags : List Int) (ps : List (List UInt8)) (w : World) (h : PkI w vn vt N tags) (hl : Sl w vl ps.length (ps.map str)) (hc : chkP o N tags ≠ 0) (ho : ∀ b (h : b < 256), o[b] < 256) (hp : 0 < ps.length) (hs : ∀ s ∈ ps, s.length ≤ 9223372036854775807) :
    Calls Try.prog 5 #[pkV o vn vt, vl] w (Meets (fedS ([], 0, 0, chkP o N tags)) w) := by
  have h0 : chkH (chkP o N tags) 0 [] 0 = chkP o N tags := by unfold chkH; rw [if_pos hc]
  have hfd := fun s w' (hg : Gr w w') hs => feedErr_calls o vn vt N tags 0 [] 0 s (chkP o N tags) w' (h.gr hg) ho (by decide) (.inl ⟨by rw [h0]; exact hc, h0.symm⟩) hs
  have hcs : ps[0] ∈ ps := List.getElem_mem hp
  have hs0 := hs _ hcs
  obtain ⟨⟨an, cn, rfl, -⟩, at', ct, rfl, -⟩ := h
  obtain ⟨bl, cl, rfl, hcl, hml, hrd⟩ := hl
  unfold maxLen at hml
  generalize chkP o N tags = c at *
  refine enter (args := [pkV o (.slice an N.length cn) (.slice at' tags.length ct), .slice bl ps.length cl]) (n := 46) Try.func5 rfl rfl rfl ?_
  refine T_seq (T_region (TL_box rfl rfl rfl fun g2 => ?_))
  conv => arg 8; simp only [zA, zB, zC, zD, zE, zF, zG, zH, zI, rowS, ret, id_eq]
  repeat (first
    | refine qv rfl (qp rfl) rfl rfl ?_ | refine TL_nil ?_ | refine T_seq ?_ | refine T_region ?_ | refine qcT rfl ?_ | refine qcF rfl ?_ | refine T_skip ?_
    | refine T_exit ?_ | refine T_ret ?_ | refine T_block ?_ | refine E_then ?_ | refine E_thenX ?_ | refine E_thenR ?_ | refine E_blockN ?_
    | refine E_blockR ?_ | refine E_blockX ?_ | refine E_blockO rfl ?_ | refine qv rfl (qlen Und.eq rfl) rfl rfl ?_
    | refine qv rfl (rr_lss rfl rfl (qT (by omega))) rfl rfl ?_ | refine qv rfl (rr_lss rfl rfl (qF (by omega))) rfl rfl ?_
    | refine qv rfl (rr_neq rfl rfl (qT (by omega))) rfl rfl ?_ | refine qv rfl (rr_neq rfl rfl (qF (by omega))) rfl rfl ?_
    | refine qv rfl (rr_add64 rfl rfl (by omega) (by omega) rfl) rfl rfl ?_)
  refine TL_new rfl fun g5 => ?_
  conv => arg 8; simp only [zA, zB, zC, zD, zE, zF, zG, zH, zI, rowS, ret, id_eq]
  repeat (first
    | refine qv rfl (qp rfl) rfl rfl ?_ | refine TL_nil ?_ | refine T_seq ?_ | refine T_region ?_ | refine qcT rfl ?_ | refine qcF rfl ?_ | refine T_skip ?_
    | refine T_exit ?_ | refine T_ret ?_ | refine T_block ?_ | refine E_then ?_ | refine E_thenX ?_ | refine E_thenR ?_ | refine E_blockN ?_
    | refine E_blockR ?_ | refine E_blockX ?_ | refine E_blockO rfl ?_ | refine qv rfl (qlen Und.eq rfl) rfl rfl ?_
    | refine qv rfl (rr_lss rfl rfl (qT (by omega))) rfl rfl ?_ | refine qv rfl (rr_lss rfl rfl (qF (by omega))) rfl rfl ?_
    | refine qv rfl (rr_neq rfl rfl (qT (by omega))) rfl rfl ?_ | refine qv rfl (rr_neq rfl rfl (qF (by omega))) rfl rfl ?_
    | refine qv rfl (rr_add64 rfl rfl (by omega) (by omega) rfl) rfl rfl ?_)
  refine T_nil 36 3 ?_
  conv => arg 7; simp only [zA, zB, zC, zD, zE, zF, zG, zH, zI, rowS, ret, id_eq]
  refine T_loop (ι := Unit) (fun _ => True) (fun _ => [(2, .pointer (some ⟨g2, 0, none⟩)), (4, .slice none 0 0), (5, .pointer (some ⟨g5, 0, none⟩)), (6, .int .i64 0), (11, .slice bl ps.length cl), (12, .int .i64 ps.length), (13, .int .i64 ((0 : Nat) : Int))])
    (fun _ => [blkO g2 (pkC o (.slice an N.length cn) (.slice at' tags.length ct)).toArray 26, blkO g5 (heldC 0 [] 0).toArray 30, toksO (.slice none 0 0) []]) (fun _ => 0) () trivial (by repeat' (first | exact True.intro | refine And.intro rfl ?_)) rfl ?_
  rintro _ _
  obtain ⟨b, off, rfl, hr⟩ := hrd (by omega)
  have hat := fun (L : List Own) => at_rdm (L := L) hr hp
  have hfd1 := hfd ps[0]
  clear hr hrd hfd
  generalize ps[0] = s at *
  repeat (first
    | refine qv rfl (qp rfl) rfl rfl ?_ | refine TL_nil ?_ | refine T_seq ?_ | refine T_region ?_ | refine qcT rfl ?_ | refine qcF rfl ?_ | refine T_skip ?_
    | refine T_exit ?_ | refine T_ret ?_ | refine T_block ?_ | refine E_then ?_ | refine E_thenX ?_ | refine E_thenR ?_ | refine E_blockN ?_
    | refine E_blockR ?_ | refine E_blockX ?_ | refine E_blockO rfl ?_ | refine qv rfl (rr_idx1 Und.eq TyC.ty rfl rfl hp) rfl rfl ?_
    | refine qv rfl (rr_load1 TyC.ty rfl (hat _)) rfl rfl ?_ | refine qv rfl (rr_loadB (i := 0) TyC.ty rfl rfl (pk_size _ _ _)) rfl rfl ?_
    | refine qv rfl (rr_loadB (i := 1) TyC.ty rfl rfl rfl) rfl rfl ?_ | refine qv rfl (qlen Und.eq rfl) rfl rfl ?_
    | refine qv rfl (rr_lss rfl rfl (qT (by omega))) rfl rfl ?_ | refine qv rfl (rr_lss rfl rfl (qF (by omega))) rfl rfl ?_
    | refine qv rfl (rr_neq rfl rfl (qT (by omega))) rfl rfl ?_ | refine qv rfl (rr_neq rfl rfl (qF (by omega))) rfl rfl ?_
    | refine qv rfl (rr_add64 rfl rfl (by omega) (by omega) rfl) rfl rfl ?_)
  refine TL_call (he3 EntersC.en rfl rfl rfl rfl) (fun w hm => hfd1 _ hm.below hs0) rfl rfl rfl ?_
  intro _ _
  conv => arg 8; simp only [zA, zB, zC, zD, zE, zF, zG, zH, zI, rowS, ret, id_eq]
  repeat (first
    | refine qv rfl (qp rfl) rfl rfl ?_ | refine TL_nil ?_ | refine T_seq ?_ | refine T_region ?_ | refine qcT rfl ?_ | refine qcF rfl ?_ | refine T_skip ?_
    | refine T_exit ?_ | refine T_ret ?_ | refine T_block ?_ | refine E_then ?_ | refine E_thenX ?_ | refine E_thenR ?_ | refine E_blockN ?_
    | refine E_blockR ?_ | refine E_blockX ?_ | refine E_blockO rfl ?_ | refine qv rfl (qlen Und.eq rfl) rfl rfl ?_
    | refine qv rfl (rr_lss rfl rfl (qT (by omega))) rfl rfl ?_ | refine qv rfl (rr_lss rfl rfl (qF (by omega))) rfl rfl ?_
    | refine qv rfl (rr_neq rfl rfl (qT (by omega))) rfl rfl ?_ | refine qv rfl (rr_neq rfl rfl (qF (by omega))) rfl rfl ?_
    | refine qv rfl (rr_add64 rfl rfl (by omega) (by omega) rfl) rfl rfl ?_)
  refine TL_storeB (i := 1) (cs' := (heldC 0 [] 0).toArray) rfl rfl rfl rfl rfl rfl ?_
  conv => arg 8; simp only [zA, zB, zC, zD, zE, zF, zG, zH, zI, rowS, ret, id_eq]
  repeat (first
    | refine qv rfl (qp rfl) rfl rfl ?_ | refine TL_nil ?_ | refine T_seq ?_ | refine T_region ?_ | refine qcT rfl ?_ | refine qcF rfl ?_ | refine T_skip ?_
    | refine T_exit ?_ | refine T_ret ?_ | refine T_block ?_ | refine E_then ?_ | refine E_thenX ?_ | refine E_thenR ?_ | refine E_blockN ?_
    | refine E_blockR ?_ | refine E_blockX ?_ | refine E_blockO rfl ?_ | refine qv rfl (qlen Und.eq rfl) rfl rfl ?_
    | refine qv rfl (rr_lss rfl rfl (qT (by omega))) rfl rfl ?_ | refine qv rfl (rr_lss rfl rfl (qF (by omega))) rfl rfl ?_
    | refine qv rfl (rr_neq rfl rfl (qT (by omega))) rfl rfl ?_ | refine qv rfl (rr_neq rfl rfl (qF (by omega))) rfl rfl ?_
    | refine qv rfl (rr_add64 rfl rfl (by omega) (by omega) rfl) rfl rfl ?_)
  refine TL_append0 (i := 2) ElC.el rfl rfl rfl rfl ?_
  conv => arg 8; simp only [zA, zB, zC, zD, zE, zF, zG, zH, zI, rowS, ret, id_eq]
  repeat (first
    | refine qv rfl (qp rfl) rfl rfl ?_ | refine TL_nil ?_ | refine T_seq ?_ | refine T_region ?_ | refine qcT rfl ?_ | refine qcF rfl ?_ | refine T_skip ?_
    | refine T_exit ?_ | refine T_ret ?_ | refine T_block ?_ | refine E_then ?_ | refine E_thenX ?_ | refine E_thenR ?_ | refine E_blockN ?_
    | refine E_blockR ?_ | refine E_blockX ?_ | refine E_blockO rfl ?_ | refine qv rfl (rr_neq (b := true) rfl rfl (decide_eq_true hc)) rfl rfl ?_
    | refine qv rfl (qlen Und.eq rfl) rfl rfl ?_ | refine qv rfl (rr_lss rfl rfl (qT (by omega))) rfl rfl ?_
    | refine qv rfl (rr_lss rfl rfl (qF (by omega))) rfl rfl ?_ | refine qv rfl (rr_neq rfl rfl (qT (by omega))) rfl rfl ?_
    | refine qv rfl (rr_neq rfl rfl (qF (by omega))) rfl rfl ?_ | refine qv rfl (rr_add64 rfl rfl (by omega) (by omega) rfl) rfl rfl ?_)
  refine T_ord ([blkO g5 (heldC 0 [] 0).toArray 30]) (.calm 0 (.calm 1 (.calm 2 (.calm 3 (.one 4 (.calm 5 (.done))))))) (sub_pick [1] (by decide) rfl) (by kernel_rfl) (by kernel_rfl) (by intro c a d v w h; cases d <;> exact h) ?_
  repeat (first
    | ((first | refine TW_plain rfl rfl ?_ | refine TW_gmet rfl rfl rfl rfl ?_); first | refine TN_val (qp rfl) rfl rfl ?_ | refine TN_val (rr_loadB (i := 0) TyC.ty rfl rfl rfl) rfl rfl ?_ | refine TN_val (qlen Und.eq rfl) rfl rfl ?_ | refine TN_val (rr_lss rfl rfl (qT (by omega))) rfl rfl ?_ | refine TN_val (rr_lss rfl rfl (qF (by omega))) rfl rfl ?_ | refine TN_val (rr_neq rfl rfl (qT (by omega))) rfl rfl ?_ | refine TN_val (rr_neq rfl rfl (qF (by omega))) rfl rfl ?_ | refine TN_val (rr_add64 rfl rfl (by omega) (by omega) rfl) rfl rfl ?_)
    | refine TW_done ?_)
  refine TW_one rfl ?_
  refine TL_storeB (i := 1) (cs' := (heldC 0 [] 0).toArray) rfl rfl rfl rfl rfl rfl ?_
  conv => arg 8; simp only [zA, zB, zC, zD, zE, zF, zG, zH, zI, rowS, ret, id_eq]
  refine TW_on (sub_pick [1] (by decide) rfl) ?_
  repeat (first
    | ((first | refine TW_plain rfl rfl ?_ | refine TW_gmet rfl rfl rfl rfl ?_); first | refine TN_val (qp rfl) rfl rfl ?_ | refine TN_val (qlen Und.eq rfl) rfl rfl ?_ | refine TN_val (rr_lss rfl rfl (qT (by omega))) rfl rfl ?_ | refine TN_val (rr_lss rfl rfl (qF (by omega))) rfl rfl ?_ | refine TN_val (rr_neq rfl rfl (qT (by omega))) rfl rfl ?_ | refine TN_val (rr_neq rfl rfl (qF (by omega))) rfl rfl ?_ | refine TN_val (rr_add64 rfl rfl (by omega) (by omega) rfl) rfl rfl ?_)
    | refine TW_done ?_)
  repeat (first
    | refine qv rfl (qp rfl) rfl rfl ?_ | refine TL_nil ?_ | refine T_seq ?_ | refine T_region ?_ | refine qcT rfl ?_ | refine qcF rfl ?_ | refine T_skip ?_
    | refine T_exit ?_ | refine T_ret ?_ | refine T_block ?_ | refine E_then ?_ | refine E_thenX ?_ | refine E_thenR ?_ | refine E_blockN ?_
    | refine E_blockR ?_ | refine E_blockX ?_ | refine E_blockO rfl ?_ | refine qv rfl (qlen Und.eq rfl) rfl rfl ?_
    | refine qv rfl (rr_lss rfl rfl (qT (by omega))) rfl rfl ?_ | refine qv rfl (rr_lss rfl rfl (qF (by omega))) rfl rfl ?_
    | refine qv rfl (rr_neq rfl rfl (qT (by omega))) rfl rfl ?_ | refine qv rfl (rr_neq rfl rfl (qF (by omega))) rfl rfl ?_
    | refine qv rfl (rr_add64 rfl rfl (by omega) (by omega) rfl) rfl rfl ?_)
  exact E_retm3 (i := 1) rfl rfl rfl rfl rfl rfl fun w hm => hm.meets (S := fedS ([], 0, 0, c)) (.slice none 0 0) trivial [2] (by decide) rfl
end Go.Proofs.Ytkmemlnkijinlaa.eng

/- RestE -/
namespace Go.Proofs.Ytkmemlnkijinlaa.eng
open Go.RowKit kit mix
theorem restE (n m : Int) (w : World) (hn0 : -9223372036854775808 ≤ n) (hn1 : n ≤ 9223372036854775807) (hm0 : 0 < m) (hm1 : m ≤ 9223372036854775807) :
    Calls Try.prog 26 #[.int .i64 n, .int .i64 m] w (Meets (ret (.int .i64 (n % m))) w) := by
  have hm : ¬ m = 0 := by omega
  have hr1 := Int.emod_nonneg n hm
  have hr2 := Int.emod_lt_of_pos n hm0
  refine enter (args := [.int .i64 n, .int .i64 m]) (n := 15) Try.func26 rfl rfl rfl ?_
  have hrem : ∀ w, (binOp .rem 2 (.int .i64 n) (.int .i64 m)).run Try.prog w = .ok (.int .i64 (n.tmod m)) w := fun w => by simp [binOp, Op.intDiv, hm]
  by_cases h : n.tmod m < 0
  · have e : n.tmod m + m = n % m := by
      rw [Int.tmod_eq_emod] at h ⊢
      split at h
      · omega
      · rename_i hd
        rw [if_neg hd]
        have : (m.natAbs : Int) = m := by omega
        omega
    repeat (first
      | refine TL_val (rr_move rfl) rfl rfl rfl ?_
      | refine TL_val (rr_assign rfl) rfl rfl rfl ?_
      | refine TL_nil ?_
      | refine T_seq ?_
      | refine T_region ?_
      | refine T_condT rfl ?_
      | refine T_condF rfl ?_
      | refine T_skip ?_
      | refine T_ret ?_
      | refine E_then ?_
      | refine E_thenR ?_
      | refine TL_val (rr_int rfl rfl hrem) rfl rfl rfl ?_
      | refine TL_val (rr_lss rfl rfl (decide_eq_true (by omega))) rfl rfl rfl ?_
      | refine TL_val (rr_lss rfl rfl (decide_eq_false (by omega))) rfl rfl rfl ?_
      | refine TL_val (rr_add64 rfl rfl (by omega) (by omega) rfl) rfl rfl rfl ?_)
    rw [e]
    exact E_ret1 rfl rfl fun w hm => hm.ret
  · have e : n.tmod m = n % m := by
      rw [Int.tmod_eq_emod] at h ⊢
      split at h
      · rename_i hd
        rw [if_pos hd]; omega
      · rename_i hd
        rw [if_neg hd]
        have : (m.natAbs : Int) = m := by omega
        omega
    repeat (first
      | refine TL_val (rr_move rfl) rfl rfl rfl ?_
      | refine TL_val (rr_assign rfl) rfl rfl rfl ?_
      | refine TL_nil ?_
      | refine T_seq ?_
      | refine T_region ?_
      | refine T_condT rfl ?_
      | refine T_condF rfl ?_
      | refine T_skip ?_
      | refine T_ret ?_
      | refine E_then ?_
      | refine E_thenR ?_
      | refine TL_val (rr_int rfl rfl hrem) rfl rfl rfl ?_
      | refine TL_val (rr_lss rfl rfl (decide_eq_true (by omega))) rfl rfl rfl ?_
      | refine TL_val (rr_lss rfl rfl (decide_eq_false (by omega))) rfl rfl rfl ?_
      | refine TL_val (rr_add64 rfl rfl (by omega) (by omega) rfl) rfl rfl rfl ?_)
    rw [e]
    exact E_ret1 rfl rfl fun w hm => hm.ret
end Go.Proofs.Ytkmemlnkijinlaa.eng

