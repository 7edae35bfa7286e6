/- Part 6 of what LexerOwn needs: LexerOwnW. -/
import Derived.Test.YtkmemlnkijinlaaMgE
import Derived.WalkKit
import Derived.WalkSpells
import Derived.WalkLawsBesides
import Derived.Deep.RegionLaw
import Derived.Deep.AppendLies
import Derived.Deep.QuietTactic
import Derived.BigQuiet
import Derived.Deep.DeepCutAuto
import Derived.Lib.Hide
import Derived.Test.YtkmemlnkijinlaaRows
import Derived.ProofKit
import Derived.OpenShut
import Derived.ShutString
import Derived.SizedLaws
import Derived.JoinedCond
import Derived.Deep.CondSized
import Derived.Deep.Quiet
import Derived.StillTail
import Derived.Deep.LoopGhost
import Derived.Laws.BitsLemmas
import Derived.Laws.BytesString
import Derived.Test.YtkmemlnkijinlaaProg
import Derived.Laws.StructEq
import Derived.Laws.MakeOwn
import Derived.Laws.AppendOwn
import Derived.Maps.OwnSet
import Derived.DeepKeys4
import Derived.WideKeyEntry
import Derived.Laws.Entries
import Derived.Shelf.Sort.Plain
import Derived.Ground.Names2Prog
import Derived.Shelf.Slices.CompactI
import Derived.Shelf.Slices.In.SortNone
import Derived.Lib.RowBridge
import Derived.Laws.BitsAllLaws
import Derived.Lib.TrailingZeros
import Derived.Lib.SlicesCompact
import Derived.ChangeKeysEq
import Derived.Laws.Bits64b
/- LexerOwnW -/
namespace Go.Proofs.Ytkmemlnkijinlaa.lexerOwn
open Go.RowKit kit mix eng smallL lexL dfaP placesL
theorem abc_lexO (s : List UInt8) (hs : s.length ≤ 2000) : lexA (ofS abcR 256) (pkR abcR) abcT s = lexR abcR abcT s (s.length + 1) 0 := by
  have hg := pk_good abc_chk
  rw [lexA_ok (chkP_0 hg) hs, lexF_rows hg, un_pk abcR (by decide)]
theorem abc_ab : lexA (ofS abcR 256) (pkR abcR) abcT [97, 98] = ([(1, 0, 2)], 0, 0) := by
  rw [abc_lexO _ (by decide)]
  kernel_rfl
theorem pk_setN (o : Of) (vn vt v : Value) : (pkC o vn vt).toArray.setIfInBounds 256 v = (pkC o v vt).toArray := by
  apply Array.ext'
  rw [Array.toList_setIfInBounds]
  unfold pkC
  simp
theorem pk_setT (o : Of) (vn vt v : Value) : (pkC o vn vt).toArray.setIfInBounds 257 v = (pkC o vn v).toArray := by
  apply Array.ext'
  rw [Array.toList_setIfInBounds]
  unfold pkC
  simp
theorem pk_lt (o : Of) (vn vt : Value) {k : Nat} (h : k < 258) : Nat.blt k (pkC o vn vt).toArray.size = true := by
  rw [pk_size]; simpa using h
theorem lex_len {o : Of} {N : List (List Int)} {tags : List Int} {s : List UInt8} (f at' : Nat) : (lexGo o N tags s f at').1.length ≤ f := by
  induction f generalizing at' with
  | zero => simp [lexGo]
  | succ f ih =>
    rw [lexGo_succ]
    split
    · split
      · simp
      · simp only [List.length_cons]; have := ih (oneF o N tags s at').2; omega
    · simp
theorem Mem.rom {B : Base} {w : World} {L : List Own} {i j k gT : Nat} {F : Nat → Prop} {us : List Value} {vq : Value} {N : List (List Int)} {tags : List Int} (hm : Mem B L w) (hi : L[i]? = some (romO F us N)) (hj : L[j]? = some (rowO 24 1 vq N.length (us.flatMap one1))) (hk : L[k]? = some (blkO gT (romC tags) 3)) (hrl : ∀ l ∈ N, l.length + 3 ≤ 9223372036854775807) (hok : ∀ l ∈ N, ∀ x ∈ l, kit.okI64 x) (ht : tags.length + 3 ≤ 9223372036854775807) : PkI w vq (romV gT tags) N tags :=
  ⟨rom_slf hrl hok (by have h := hm.get hj; have h2 : (romO F us N).holds w := hm.get hi; rw [← h2.1.1] at h; exact h) (hm.get hi), sl_blk hk (fun _ _ h => romC_get h) (by omega) ht w hm⟩
set_option maxRecDepth 100000 in
set_option maxHeartbeats 16000000 in
theorem walk (w : World) (v : Value) (o : Of) (N : List (List Int)) (tags : List Int) (vn vt : Value) (hv : v = pkV o vn vt) (ho : ∀ b (h : b < 256), o[b] < 256) (hp : PkI w vn vt N tags) (hb1 : N.length * 24 ≤ 140737488351232) (hb2 : tags.length * 8 ≤ 140737488351232) (hb3 : ∀ l ∈ N, l.length * 8 ≤ 140737488351232) (s : List UInt8) (hs : s.length ≤ 140737488351232) :
    Calls Try.prog 4 #[v, str s] w (Meets (ret (.bool true)) w) := by
  subst hv
  have hl0 := fun vn vt w' h => lex_calls (ofS abcR 256) vn vt (pkR abcR) abcT [97, 98] w' h (ofS_256 abcR) (by decide)
  rw [abc_ab] at hl0
  have hpk := abc_chk
  have habc := abc_calls
  unfold abcS at habc
  generalize abcR = R at *
  generalize abcT = T at *
  have hb0 := build_held0
  have hrl : ∀ l ∈ N, l.length + 3 ≤ 9223372036854775807 := fun l hl => by have := hb3 l hl; omega
  have hRt := fun w' (hg : Gr w w') => roomySmIr_calls vt tags 99 w' (hp.hT.gr hg) (by omega)
  have hSm := fun vn' vt' w' (hg : Gr w w') h' => samePk_calls o vn vt vn' vt' N tags w' (hp.gr hg) h'
  have hlx := fun vn' vt' w' h' => lex_calls o vn' vt' N tags s w' h' ho (by omega)
  have hfe := fun (c : Int) hc vn' vt' w' h' => feedErr_calls o vn' vt' N tags 0 [] 0 s c w' h' ho (by decide) hc (by omega)
  have hft := fun (hc : chkP o N tags = 0) (hl : s.length ≤ 2000) vn' vt' w' h' => feedTok_calls o vn' vt' N tags 0 [] s w' h' hc ho (by decide) (by decide) hl
  obtain ⟨⟨an, cn, rfl, hn1, hn2, hrd⟩, at', ct, rfl, htl⟩ := hp
  have hok : ∀ l ∈ N, ∀ x ∈ l, kit.okI64 x := fun l hl => by
    obtain ⟨i, hi, rfl⟩ := List.mem_iff_getElem.1 hl
    obtain ⟨b, off, _, _, hr⟩ := hrd (by omega)
    obtain ⟨cs, ⟨u, _, hu⟩, _⟩ := hr i hi
    exact hu.okp
  clear htl
  refine enter (args := [pkV o (.slice an N.length cn) (.slice at' tags.length ct), str s]) (n := 137) Try.func4 rfl rfl rfl ?_
  refine T_seq (T_region (TL_box rfl rfl rfl fun g2 => ?_))
  conv => arg 8; simp only [zA, zB, zC, zD, zE, zF, zG, zH, zI, rowS, ret, id_eq]
  repeat (first
    | refine QV QP ?_ | refine QZ ?_ | refine qcT rfl ?_ | refine qcF rfl ?_ | refine E_blockX ?_ | refine E_blockO rfl ?_
    | refine qs rfl rfl rfl rfl rfl rfl ?_
    | ((try refine qg rfl rfl rfl ?_); first | refine QV QP ?_ | refine QV QL ?_ | refine QV QA ?_ | refine QV (rr_not rfl rfl) ?_ | refine QV QlT ?_ | refine QV QlF ?_ | refine QV QeT ?_ | refine QV QeF ?_ | refine QV QnT ?_ | refine QV QnF ?_ | refine QV QaA ?_))
  refine TL_call (he0 EntersC.en rfl) (fun w hm => habc w) rfl rfl rfl ?_
  rintro ⟨gN, vs, vT⟩ _
  conv => arg 8; simp only [zA, zB, zC, zD, zE, zF, zG, zH, zI, rowS, ret, id_eq]
  repeat (first
    | refine QV QP ?_ | refine QZ ?_ | refine qcT rfl ?_ | refine qcF rfl ?_ | refine E_blockX ?_ | refine E_blockO rfl ?_
    | refine qs rfl rfl rfl rfl rfl rfl ?_
    | ((try refine qg rfl rfl rfl ?_); first | refine QV QP ?_ | refine QV QL ?_ | refine QV QA ?_ | refine QV (rr_not rfl rfl) ?_ | refine QV QlT ?_ | refine QV QlF ?_ | refine QV QeT ?_ | refine QV QeF ?_ | refine QV QnT ?_ | refine QV QnF ?_ | refine QV QaA ?_))
  refine TL_call (he2 EntersC.en rfl rfl rfl) (fun w hm => hl0 _ _ w (hm.pkI (i := 1) (j := 2) (k := 3) rfl rfl rfl hpk)) rfl rfl rfl ?_
  intro vl _
  conv => arg 8; simp only [zA, zB, zC, zD, zE, zF, zG, zH, zI, rowS, ret, id_eq, lexS]
  conv => arg 7; simp only [lexS]
  refine TL_know (i := 4) rfl row_sl fun hrow => ?_
  obtain ⟨avl, cvl, rfl, havl⟩ := hrow
  repeat (first
    | refine QV QP ?_ | refine QZ ?_ | refine qcT rfl ?_ | refine qcF rfl ?_ | refine E_blockX ?_ | refine E_blockO rfl ?_
    | refine qs rfl rfl rfl rfl rfl rfl ?_
    | ((try refine qg rfl rfl rfl ?_); first | refine QV QP ?_ | refine QV (rr_neq (b := false) rfl rfl (decide_eq_false (by decide))) ?_ | refine QV (rr_neq (b := false) rfl rfl (decide_eq_false (by decide))) ?_ | refine QV QL ?_ | refine QV QA ?_ | refine QV (rr_not rfl rfl) ?_ | refine QV QlT ?_ | refine QV QlF ?_ | refine QV QeT ?_ | refine QV QeF ?_ | refine QV QnT ?_ | refine QV QnF ?_ | refine QV QaA ?_))
  refine TL_pick [0] (by decide) rfl ?_
  clear hl0 habc hpk havl
  repeat (first
    | refine QV QP ?_ | refine QZ ?_ | refine qcT rfl ?_ | refine qcF rfl ?_ | refine E_blockX ?_ | refine E_blockO rfl ?_
    | refine qs rfl rfl rfl rfl rfl rfl ?_
    | ((try refine qg rfl rfl rfl ?_); first | refine QV QP ?_ | refine QV (rr_loadB (i := 0) TyC.ty rfl rfl (pk_size _ _ _)) ?_ | refine QV QL ?_ | refine QV QA ?_ | refine QV (rr_not rfl rfl) ?_ | refine QV QlT ?_ | refine QV QlF ?_ | refine QV QeT ?_ | refine QV QeF ?_ | refine QV QnT ?_ | refine QV QnF ?_ | refine QV QaA ?_))
  refine TL_new rfl fun g8 => ?_
  conv => arg 8; simp only [zA, zB, zC, zD, zE, zF, zG, zH, zI, rowS, ret, id_eq]
  refine TL_storeB (i := 1) (cs' := (pkC o (.slice an N.length cn) (.slice at' tags.length ct)).toArray) rfl rfl rfl (pk_size _ _ _) (pk_one _ rfl rfl) (by rw [zero_pk]; exact pk_size _ _ _) ?_
  conv => arg 8; simp only [zA, zB, zC, zD, zE, zF, zG, zH, zI, rowS, ret, id_eq]
  repeat (first
    | refine QV QP ?_ | refine QZ ?_ | refine qcT rfl ?_ | refine qcF rfl ?_ | refine E_blockX ?_ | refine E_blockO rfl ?_
    | refine qs rfl rfl rfl rfl rfl rfl ?_
    | ((try refine qg rfl rfl rfl ?_); first | refine QV QP ?_ | refine QV QL ?_ | refine QV QA ?_ | refine QV (rr_not rfl rfl) ?_ | refine QV QlT ?_ | refine QV QlF ?_ | refine QV QeT ?_ | refine QV QeF ?_ | refine QV QnT ?_ | refine QV QnF ?_ | refine QV QaA ?_))
  refine TL_store1 (i := 1) rfl rfl rfl rfl rfl (pk_lt _ _ _ (by decide)) ?_
  rw [pk_setN]
  conv => arg 8; simp only [zA, zB, zC, zD, zE, zF, zG, zH, zI, rowS, ret, id_eq]
  repeat (first
    | refine QV QP ?_ | refine QZ ?_ | refine qcT rfl ?_ | refine qcF rfl ?_ | refine E_blockX ?_ | refine E_blockO rfl ?_
    | refine qs rfl rfl rfl rfl rfl rfl ?_
    | ((try refine qg rfl rfl rfl ?_); first | refine QV QP ?_ | refine QV (rr_load1 (v := .slice an N.length cn) TyC.ty rfl (at_blk (i := 0) rfl (pk_next _ _ _))) ?_ | refine QV QL ?_ | refine QV QA ?_ | refine QV (rr_not rfl rfl) ?_ | refine QV QlT ?_ | refine QV QlF ?_ | refine QV QeT ?_ | refine QV QeF ?_ | refine QV QnT ?_ | refine QV QnF ?_ | refine QV QaA ?_))
  conv => arg 7; simp only [zA, zB, zC, zD, zE, zF, zG, zH, zI, rowS, ret, id_eq]
  refine T_extra (romO (fun _ => False) [] []) (fun k hk => hk.elim (fun h => by cases h) id) rom_nil ?_
  conv => arg 7; simp only [zA, zB, zC, zD, zE, zF, zG, zH, zI, rowS, ret, id_eq]
  refine T_extra (folR (.slice none 0 0) []) (fun k hk => hk.elim (fun h => by cases h) id) (fun w => ⟨by decide, .inl ⟨rfl, rfl⟩⟩) ?_
  conv => arg 7; simp only [zA, zB, zC, zD, zE, zF, zG, zH, zI, rowS, ret, id_eq]
  refine T_loop (ι := Nat × (Nat → Prop) × List Value × Value) (fun (j, _, us, vq) => j ≤ N.length ∧ us.length = j ∧ vq.cells = #[vq] ∧ vq.oneCell' = true) (fun (j, _, _, _) => [(1, str s), (2, .pointer (some ⟨g2, 0, none⟩)), (8, .pointer (some ⟨g8, 0, none⟩)), (37, .slice an N.length cn), (38, .int .i64 (N.length : Int)), (39, .int .i64 (j : Int))])
    (fun (j, F, us, vq) => [blkO g2 (pkC o (.slice an N.length cn) (.slice at' tags.length ct)).toArray 26, blkO g8 (pkC o vq (.slice at' tags.length ct)).toArray 26, romO F us (N.take j), rowO 24 1 vq j (us.flatMap one1)]) (fun (j, _) => N.length - j) (0, fun _ => False, [], .slice none 0 0) ⟨Nat.zero_le _, rfl, rfl, rfl⟩ (by repeat' (first | exact True.intro | refine And.intro rfl ?_)) rfl ?_
  rintro ⟨j, F, us, vq⟩ ⟨j1, j2, j3, j4⟩
  dsimp only at j1 j2 j3 j4 ⊢
  by_cases c1 : j < N.length
  · obtain ⟨b, off, rfl, _, hr⟩ := hrd (by omega)
    obtain ⟨cs, hc, hd⟩ := hr j c1
    obtain ⟨u, rfl, hu⟩ := folS_sl hc
    have hat := fun (L : List Own) => at_rd (L := L) hd (j := 0) (v := u) rfl
    have hRr := fun w' (hg : Gr w w') => roomySmIr_calls u N[j] 99 w' (hu.gr hg) (by have := hb3 N[j] (List.getElem_mem c1); omega)
    have htk : N.take (j + 1) = N.take j ++ [N[j]] := List.take_succ_eq_append_getElem c1
    clear hRt hSm hlx hfe hft hd hc hr hrd hu hok
    generalize N[j] = x at *
    repeat (first
      | refine QV QP ?_ | refine QZ ?_ | refine qcT rfl ?_ | refine qcF rfl ?_ | refine E_blockX ?_ | refine E_blockO rfl ?_
      | refine qs rfl rfl rfl rfl rfl rfl ?_
      | ((try refine qg rfl rfl rfl ?_); first | refine QV QP ?_ | refine QV (rr_idxc Und.eq TyC.ty rfl rfl c1) ?_ | refine QV (rr_load1 (v := u) TyC.ty rfl (hat _)) ?_ | refine QV QL ?_ | refine QV QA ?_ | refine QV (rr_not rfl rfl) ?_ | refine QV QlT ?_ | refine QV QlF ?_ | refine QV QeT ?_ | refine QV QeF ?_ | refine QV QnT ?_ | refine QV QnF ?_ | refine QV QaA ?_))
    refine T_ord ([]) (.calm 0 (.calm 2 (.two 1 (.one 3 (.one 4 (.one 5 (.calm 6 (.one 7 (.done)))))) 3 (.two 1 (.one 4 (.one 5 (.calm 6 (.one 7 (.done))))) 4 (.one 1 (.one 5 (.calm 6 (.one 7 (.done))))))))) (sub_nil) (by kernel_rfl) (by kernel_rfl) (by intro c a d v w h; cases d <;> exact h) ?_
    repeat (first
      | ((first | refine TW_plain rfl rfl ?_ | refine TW_gmet rfl rfl rfl rfl ?_); first | refine QW QP ?_ | refine QW QL ?_ | refine QW QA ?_ | refine QW (rr_not rfl rfl) ?_ | refine QW QlT ?_ | refine QW QlF ?_ | refine QW QeT ?_ | refine QW QeF ?_ | refine QW QnT ?_ | refine QW QnF ?_ | refine QW QaA ?_)
      | refine TW_skip rfl rfl rfl rfl rfl rfl rfl ?_ | refine TW_done ?_)
    refine TW_two rfl rfl ?_ ?_
    · refine TL_val (rr_load1 (v := vq) TyC.ty rfl (at_blk (i := 1) rfl (pk_next _ _ _))) rfl rfl rfl (TW_on sub_nil ?_)
      refine TW_one rfl (TL_call (he2 EntersC.en rfl rfl rfl) (fun w hm => hRr w hm.below) rfl rfl rfl fun gr _ => (TW_on sub_nil ?_))
      refine TW_one rfl (TL_litN (cs := #[romV gr x]) [romV gr x] rfl rfl rfl (by intro v hv; simp only [List.mem_cons, List.not_mem_nil, or_false] at hv; subst hv; rfl) rfl rfl rfl fun g47 => (TW_on sub_nil ?_))
      refine TW_one rfl (TL_appSl (i := 3) (e := 24) (size := 1) (bytes := 24) (m := j) (xs := us.flatMap one1) (k := 1) (ys := [romV gr x]) rfl (sl_blk (i := 5) rfl (fun j u h => by simpa using h) (Nat.le_refl 1) (by decide)) rfl rfl rfl (by intro u hu; simp only [List.mem_cons, List.not_mem_nil, or_false] at hu; subst hu; rfl) (by omega) (by omega) rfl fun vq' => (TW_on sub_nil ?_))
      repeat (first
        | ((first | refine TW_plain rfl rfl ?_ | refine TW_gmet rfl rfl rfl rfl ?_); first | refine QW QP ?_ | refine QW QL ?_ | refine QW QA ?_ | refine QW (rr_not rfl rfl) ?_ | refine QW QlT ?_ | refine QW QlF ?_ | refine QW QeT ?_ | refine QW QeF ?_ | refine QW QnT ?_ | refine QW QnF ?_ | refine QW QaA ?_)
        | refine TW_skip rfl rfl rfl rfl rfl rfl rfl ?_ | refine TW_done ?_)
      refine TW_one rfl (TL_slv (i := 3) rfl fun hv1 hv2 => TL_store1 (i := 1) rfl rfl rfl hv1 hv2 (pk_lt _ _ _ (by decide)) (TW_on sub_nil ?_))
      rw [pk_setN]
      repeat (first
        | ((first | refine TW_plain rfl rfl ?_ | refine TW_gmet rfl rfl rfl rfl ?_); first | refine QW QP ?_ | refine QW QL ?_ | refine QW QA ?_ | refine QW (rr_not rfl rfl) ?_ | refine QW QlT ?_ | refine QW QlF ?_ | refine QW QeT ?_ | refine QW QeF ?_ | refine QW QnT ?_ | refine QW QnF ?_ | refine QW QaA ?_)
        | refine TW_skip rfl rfl rfl rfl rfl rfl rfl ?_ | refine TW_done ?_)
      repeat (first
        | refine QV QP ?_ | refine QZ ?_ | refine qcT rfl ?_ | refine qcF rfl ?_ | refine E_blockX ?_ | refine E_blockO rfl ?_
        | refine qs rfl rfl rfl rfl rfl rfl ?_
        | ((try refine qg rfl rfl rfl ?_); first | refine QV QP ?_ | refine QV QL ?_ | refine QV QA ?_ | refine QV (rr_not rfl rfl) ?_ | refine QV QlT ?_ | refine QV QlF ?_ | refine QV QeT ?_ | refine QV QeF ?_ | refine QV QnT ?_ | refine QV QnF ?_ | refine QV QaA ?_))
      refine E_merge (romO (fun k => F k ∨ k = gr) (us ++ [romV gr x]) (N.take j ++ [x])) 2 4 [0, 1, 3] (by decide) rfl rfl rfl rom_foot (fun w h1 h2 => rom_snoc h1 h2) ?_
      refine E_pick [0, 1, 3, 2] (by decide) rfl ?_
      exact E_round (j + 1, _, us ++ [romV gr x], vq') ⟨by omega, by rw [List.length_append, j2]; rfl, hv1, hv2⟩ (by show N.length - (j + 1) < N.length - j; omega) (by repeat' (first | exact True.intro | refine And.intro rfl ?_)) (by rw [htk, List.flatMap_append]; rfl)
    · refine TL_call (he2 EntersC.en rfl rfl rfl) (fun w hm => hRr w hm.below) rfl rfl rfl fun gr _ => (TW_on sub_nil ?_)
      refine TW_two rfl rfl ?_ ?_
      · refine TL_val (rr_load1 (v := vq) TyC.ty rfl (at_blk (i := 1) rfl (pk_next _ _ _))) rfl rfl rfl (TW_on sub_nil ?_)
        refine TW_one rfl (TL_litN (cs := #[romV gr x]) [romV gr x] rfl rfl rfl (by intro v hv; simp only [List.mem_cons, List.not_mem_nil, or_false] at hv; subst hv; rfl) rfl rfl rfl fun g47 => (TW_on sub_nil ?_))
        refine TW_one rfl (TL_appSl (i := 3) (e := 24) (size := 1) (bytes := 24) (m := j) (xs := us.flatMap one1) (k := 1) (ys := [romV gr x]) rfl (sl_blk (i := 5) rfl (fun j u h => by simpa using h) (Nat.le_refl 1) (by decide)) rfl rfl rfl (by intro u hu; simp only [List.mem_cons, List.not_mem_nil, or_false] at hu; subst hu; rfl) (by omega) (by omega) rfl fun vq' => (TW_on sub_nil ?_))
        repeat (first
          | ((first | refine TW_plain rfl rfl ?_ | refine TW_gmet rfl rfl rfl rfl ?_); first | refine QW QP ?_ | refine QW QL ?_ | refine QW QA ?_ | refine QW (rr_not rfl rfl) ?_ | refine QW QlT ?_ | refine QW QlF ?_ | refine QW QeT ?_ | refine QW QeF ?_ | refine QW QnT ?_ | refine QW QnF ?_ | refine QW QaA ?_)
          | refine TW_skip rfl rfl rfl rfl rfl rfl rfl ?_ | refine TW_done ?_)
        refine TW_one rfl (TL_slv (i := 3) rfl fun hv1 hv2 => TL_store1 (i := 1) rfl rfl rfl hv1 hv2 (pk_lt _ _ _ (by decide)) (TW_on sub_nil ?_))
        rw [pk_setN]
        repeat (first
          | ((first | refine TW_plain rfl rfl ?_ | refine TW_gmet rfl rfl rfl rfl ?_); first | refine QW QP ?_ | refine QW QL ?_ | refine QW QA ?_ | refine QW (rr_not rfl rfl) ?_ | refine QW QlT ?_ | refine QW QlF ?_ | refine QW QeT ?_ | refine QW QeF ?_ | refine QW QnT ?_ | refine QW QnF ?_ | refine QW QaA ?_)
          | refine TW_skip rfl rfl rfl rfl rfl rfl rfl ?_ | refine TW_done ?_)
        repeat (first
          | refine QV QP ?_ | refine QZ ?_ | refine qcT rfl ?_ | refine qcF rfl ?_ | refine E_blockX ?_ | refine E_blockO rfl ?_
          | refine qs rfl rfl rfl rfl rfl rfl ?_
          | ((try refine qg rfl rfl rfl ?_); first | refine QV QP ?_ | refine QV QL ?_ | refine QV QA ?_ | refine QV (rr_not rfl rfl) ?_ | refine QV QlT ?_ | refine QV QlF ?_ | refine QV QeT ?_ | refine QV QeF ?_ | refine QV QnT ?_ | refine QV QnF ?_ | refine QV QaA ?_))
        refine E_merge (romO (fun k => F k ∨ k = gr) (us ++ [romV gr x]) (N.take j ++ [x])) 2 4 [0, 1, 3] (by decide) rfl rfl rfl rom_foot (fun w h1 h2 => rom_snoc h1 h2) ?_
        refine E_pick [0, 1, 3, 2] (by decide) rfl ?_
        exact E_round (j + 1, _, us ++ [romV gr x], vq') ⟨by omega, by rw [List.length_append, j2]; rfl, hv1, hv2⟩ (by show N.length - (j + 1) < N.length - j; omega) (by repeat' (first | exact True.intro | refine And.intro rfl ?_)) (by rw [htk, List.flatMap_append]; rfl)
      · refine TL_litN (cs := #[romV gr x]) [romV gr x] rfl rfl rfl (by intro v hv; simp only [List.mem_cons, List.not_mem_nil, or_false] at hv; subst hv; rfl) rfl rfl rfl fun g47 => (TW_on sub_nil ?_)
        refine TW_one rfl (TL_val (rr_load1 (v := vq) TyC.ty rfl (at_blk (i := 1) rfl (pk_next _ _ _))) rfl rfl rfl (TW_on sub_nil ?_))
        refine TW_one rfl (TL_appSl (i := 3) (e := 24) (size := 1) (bytes := 24) (m := j) (xs := us.flatMap one1) (k := 1) (ys := [romV gr x]) rfl (sl_blk (i := 5) rfl (fun j u h => by simpa using h) (Nat.le_refl 1) (by decide)) rfl rfl rfl (by intro u hu; simp only [List.mem_cons, List.not_mem_nil, or_false] at hu; subst hu; rfl) (by omega) (by omega) rfl fun vq' => (TW_on sub_nil ?_))
        repeat (first
          | ((first | refine TW_plain rfl rfl ?_ | refine TW_gmet rfl rfl rfl rfl ?_); first | refine QW QP ?_ | refine QW QL ?_ | refine QW QA ?_ | refine QW (rr_not rfl rfl) ?_ | refine QW QlT ?_ | refine QW QlF ?_ | refine QW QeT ?_ | refine QW QeF ?_ | refine QW QnT ?_ | refine QW QnF ?_ | refine QW QaA ?_)
          | refine TW_skip rfl rfl rfl rfl rfl rfl rfl ?_ | refine TW_done ?_)
        refine TW_one rfl (TL_slv (i := 3) rfl fun hv1 hv2 => TL_store1 (i := 1) rfl rfl rfl hv1 hv2 (pk_lt _ _ _ (by decide)) (TW_on sub_nil ?_))
        rw [pk_setN]
        repeat (first
          | ((first | refine TW_plain rfl rfl ?_ | refine TW_gmet rfl rfl rfl rfl ?_); first | refine QW QP ?_ | refine QW QL ?_ | refine QW QA ?_ | refine QW (rr_not rfl rfl) ?_ | refine QW QlT ?_ | refine QW QlF ?_ | refine QW QeT ?_ | refine QW QeF ?_ | refine QW QnT ?_ | refine QW QnF ?_ | refine QW QaA ?_)
          | refine TW_skip rfl rfl rfl rfl rfl rfl rfl ?_ | refine TW_done ?_)
        repeat (first
          | refine QV QP ?_ | refine QZ ?_ | refine qcT rfl ?_ | refine qcF rfl ?_ | refine E_blockX ?_ | refine E_blockO rfl ?_
          | refine qs rfl rfl rfl rfl rfl rfl ?_
          | ((try refine qg rfl rfl rfl ?_); first | refine QV QP ?_ | refine QV QL ?_ | refine QV QA ?_ | refine QV (rr_not rfl rfl) ?_ | refine QV QlT ?_ | refine QV QlF ?_ | refine QV QeT ?_ | refine QV QeF ?_ | refine QV QnT ?_ | refine QV QnF ?_ | refine QV QaA ?_))
        refine E_merge (romO (fun k => F k ∨ k = gr) (us ++ [romV gr x]) (N.take j ++ [x])) 2 4 [0, 1, 3] (by decide) rfl rfl rfl rom_foot (fun w h1 h2 => rom_snoc h1 h2) ?_
        refine E_pick [0, 1, 3, 2] (by decide) rfl ?_
        exact E_round (j + 1, _, us ++ [romV gr x], vq') ⟨by omega, by rw [List.length_append, j2]; rfl, hv1, hv2⟩ (by show N.length - (j + 1) < N.length - j; omega) (by repeat' (first | exact True.intro | refine And.intro rfl ?_)) (by rw [htk, List.flatMap_append]; rfl)
  · obtain rfl : j = N.length := by omega
    rw [List.take_length]
    clear hrd
    have hLb : chkP o N tags = 0 → s.length ≤ 2000 → (lexA o N tags s).1.length ≤ 2001 ∧ ((lexA o N tags s).2.2 = 0 ∨ (lexA o N tags s).2.2 = 9) := fun hc hl => by
      rw [lexA_ok hc hl]
      refine ⟨Nat.le_trans (lex_len _ _) (by omega), ?_⟩
      rcases (lexGo_covers (o := o) (N := N) (tags := tags) (s := s) (s.length + 1) 0 (Nat.zero_le _) (by omega)).2 with ⟨h, _⟩ | ⟨h, _⟩
      · left; show (lexGo o N tags s (s.length + 1) 0).2.2 = 0; rw [h]
      · exact .inr h
    have hcase : (∃ c : Int, c ≠ 0 ∧ c ≠ 9 ∧ lexA o N tags s = ([], 0, c) ∧ ((chkH (chkP o N tags) 0 [] 0 ≠ 0 ∧ c = chkH (chkP o N tags) 0 [] 0) ∨ (chkH (chkP o N tags) 0 [] 0 = 0 ∧ 2000 < s.length ∧ c = 2))) ∨ (chkP o N tags = 0 ∧ s.length ≤ 2000) := by
      by_cases c1 : chkP o N tags = 0
      · have h0 : chkH (chkP o N tags) ((0 : Nat) : Int) [] 0 = 0 := chkH_ok c1 (by decide) (by decide)
        by_cases c2 : 2000 < s.length
        · refine .inl ⟨2, by decide, by decide, ?_, .inr ⟨h0, c2, rfl⟩⟩
          unfold lexA; rw [if_neg (by simpa using c1), if_pos c2]
        · exact .inr ⟨c1, by omega⟩
      · have h0 : chkH (chkP o N tags) 0 [] 0 = chkP o N tags := by unfold chkH; rw [if_pos c1]
        refine .inl ⟨chkP o N tags, c1, ?_, ?_, .inl ⟨by rw [h0]; exact c1, h0.symm⟩⟩
        · rcases chkP_cases o N tags with h | h | h <;> rw [h] <;> decide
        · unfold lexA; rw [if_pos c1]
    repeat (first
      | refine QV QP ?_ | refine QZ ?_ | refine qcT rfl ?_ | refine qcF rfl ?_ | refine E_blockX ?_ | refine E_blockO rfl ?_
      | refine qs rfl rfl rfl rfl rfl rfl ?_
      | ((try refine qg rfl rfl rfl ?_); first | refine QV QP ?_ | refine QV (rr_load1 (v := .slice at' tags.length ct) TyC.ty rfl (at_blk (i := 0) rfl (pk_tags _ _ _))) ?_ | refine QV QL ?_ | refine QV QA ?_ | refine QV (rr_not rfl rfl) ?_ | refine QV QlT ?_ | refine QV QlF ?_ | refine QV QeT ?_ | refine QV QeF ?_ | refine QV QnT ?_ | refine QV QnF ?_ | refine QV QaA ?_))
    refine TL_call (he2 EntersC.en rfl rfl rfl) (fun w hm => hRt _ hm.below) rfl rfl rfl ?_
    intro gT _
    conv => arg 8; simp only [zA, zB, zC, zD, zE, zF, zG, zH, zI, rowS, ret, id_eq]
    repeat (first
      | refine QV QP ?_ | refine QZ ?_ | refine qcT rfl ?_ | refine qcF rfl ?_ | refine E_blockX ?_ | refine E_blockO rfl ?_
      | refine qs rfl rfl rfl rfl rfl rfl ?_
      | ((try refine qg rfl rfl rfl ?_); first | refine QV QP ?_ | refine QV QL ?_ | refine QV QA ?_ | refine QV (rr_not rfl rfl) ?_ | refine QV QlT ?_ | refine QV QlF ?_ | refine QV QeT ?_ | refine QV QeF ?_ | refine QV QnT ?_ | refine QV QnF ?_ | refine QV QaA ?_))
    refine TL_store1 (i := 1) rfl rfl rfl rfl rfl (pk_lt _ _ _ (by decide)) ?_
    rw [pk_setT]
    conv => arg 8; simp only [zA, zB, zC, zD, zE, zF, zG, zH, zI, rowS, ret, id_eq]
    clear hRt
    repeat (first
      | refine QV QP ?_ | refine QZ ?_ | refine qcT rfl ?_ | refine qcF rfl ?_ | refine E_blockX ?_ | refine E_blockO rfl ?_
      | refine qs rfl rfl rfl rfl rfl rfl ?_
      | ((try refine qg rfl rfl rfl ?_); first | refine QV QP ?_ | refine QV (rr_loadB (i := 1) TyC.ty rfl rfl (pk_size _ _ _)) ?_ | refine QV QL ?_ | refine QV QA ?_ | refine QV (rr_not rfl rfl) ?_ | refine QV QlT ?_ | refine QV QlF ?_ | refine QV QeT ?_ | refine QV QeF ?_ | refine QV QnT ?_ | refine QV QnF ?_ | refine QV QaA ?_))
    refine TL_call (he2 EntersC.en rfl rfl rfl) (fun w hm => hlx _ _ w (Mem.rom (i := 2) (j := 3) (k := 4) hm rfl rfl rfl hrl hok (by omega))) rfl rfl rfl ?_
    intro vl _
    conv => arg 8; simp only [zA, zB, zC, zD, zE, zF, zG, zH, zI, rowS, ret, id_eq, lexS]
    conv => arg 7; simp only [lexS]
    refine TL_rowv (i := 5) rfl fun b1 k1 hv1 q1 q2 => ?_
    subst hv1
    repeat (first
      | refine QV QP ?_ | refine QZ ?_ | refine qcT rfl ?_ | refine qcF rfl ?_ | refine E_blockX ?_ | refine E_blockO rfl ?_
      | refine qs rfl rfl rfl rfl rfl rfl ?_
      | ((try refine qg rfl rfl rfl ?_); first | refine QV QP ?_ | refine QV (rr_loadB (i := 1) TyC.ty rfl rfl (pk_size _ _ _)) ?_ | refine QV (rr_build rfl hb0) ?_ | refine QV QL ?_ | refine QV QA ?_ | refine QV (rr_not rfl rfl) ?_ | refine QV QlT ?_ | refine QV QlF ?_ | refine QV QeT ?_ | refine QV QeF ?_ | refine QV QnT ?_ | refine QV QnF ?_ | refine QV QaA ?_))
    clear hlx
    rcases hcase with ⟨c, hc, hc9, hlA, hcc⟩ | ⟨hc, hl⟩
    · have hfe := hfe c hcc
      rw [hlA] at *
      clear hft hLb
      refine TL_call (he3 EntersC.en rfl rfl rfl rfl) (fun w hm => hfe _ _ w (Mem.rom (i := 2) (j := 3) (k := 4) hm rfl rfl rfl hrl hok (by omega))) rfl rfl rfl ?_
      intro _ _
      conv => arg 8; simp only [zA, zB, zC, zD, zE, zF, zG, zH, zI, rowS, ret, id_eq]
      repeat (first
        | refine QV QP ?_ | refine QZ ?_ | refine qcT rfl ?_ | refine qcF rfl ?_ | refine E_blockX ?_ | refine E_blockO rfl ?_
        | refine qs rfl rfl rfl rfl rfl rfl ?_
        | ((try refine qg rfl rfl rfl ?_); first | refine QV QP ?_ | refine QV QL ?_ | refine QV QA ?_ | refine QV (rr_not rfl rfl) ?_ | refine QV QlT ?_ | refine QV QlF ?_ | refine QV QeT ?_ | refine QV QeF ?_ | refine QV QnT ?_ | refine QV QnF ?_ | refine QV QaA ?_))
      refine TL_new rfl fun g14 => ?_
      conv => arg 8; simp only [zA, zB, zC, zD, zE, zF, zG, zH, zI, rowS, ret, id_eq]
      repeat (first
        | refine QV QP ?_ | refine QZ ?_ | refine qcT rfl ?_ | refine qcF rfl ?_ | refine E_blockX ?_ | refine E_blockO rfl ?_
        | refine qs rfl rfl rfl rfl rfl rfl ?_
        | ((try refine qg rfl rfl rfl ?_); first | refine QV QP ?_ | refine QV QL ?_ | refine QV QA ?_ | refine QV (rr_not rfl rfl) ?_ | refine QV QlT ?_ | refine QV QlF ?_ | refine QV QeT ?_ | refine QV QeF ?_ | refine QV QnT ?_ | refine QV QnF ?_ | refine QV QaA ?_))
      refine TL_storeB (i := 6) (cs' := (heldC 0 [] 0).toArray) rfl rfl rfl rfl rfl rfl ?_
      conv => arg 8; simp only [zA, zB, zC, zD, zE, zF, zG, zH, zI, rowS, ret, id_eq]
      repeat (first
        | refine QV QP ?_ | refine QZ ?_ | refine qcT rfl ?_ | refine qcF rfl ?_ | refine E_blockX ?_ | refine E_blockO rfl ?_
        | refine qs rfl rfl rfl rfl rfl rfl ?_
        | ((try refine qg rfl rfl rfl ?_); first | refine QV QP ?_ | refine QV (rr_neq (b := true) rfl rfl (decide_eq_true hc)) ?_ | refine QV (rr_neq (b := true) rfl rfl (decide_eq_true hc9)) ?_ | refine QV (rr_eql (b := true) rfl rfl (decide_eq_true rfl)) ?_ | refine QV QL ?_ | refine QV QA ?_ | refine QV (rr_not rfl rfl) ?_ | refine QV QlT ?_ | refine QV QlF ?_ | refine QV QeT ?_ | refine QV QeF ?_ | refine QV QnT ?_ | refine QV QnF ?_ | refine QV QaA ?_))
      exact E_ret1e rfl rfl rfl
    · have hft := hft hc hl
      obtain ⟨hl1, hle⟩ := hLb hc hl
      obtain ⟨hsm, hes⟩ := feed_small (o := o) (N := N) (tags := tags) s 0 [] (by decide)
      have hcnt := feed_cnt (o := o) (N := N) (tags := tags) s 0 []
      generalize feedGo o N tags s 0 [] = D at *
      obtain ⟨out, a, u, e⟩ := D
      dsimp only at hsm hes hcnt
      rw [List.length_nil] at hcnt
      generalize lexA o N tags s = X at *
      obtain ⟨l, at2, e2⟩ := X
      dsimp only at hl1 hle ⊢
      clear hfe
      refine TL_call (he3 EntersC.en rfl rfl rfl rfl) (fun w hm => hft _ _ w (Mem.rom (i := 2) (j := 3) (k := 4) hm rfl rfl rfl hrl hok (by omega))) rfl rfl rfl ?_
      intro vm _
      conv => arg 8; simp only [zA, zB, zC, zD, zE, zF, zG, zH, zI, rowS, ret, id_eq, feedS]
      conv => arg 7; simp only [feedS]
      refine TL_rowv (i := 6) rfl fun b2 k2 hv2 q3 q4 => ?_
      subst hv2
      repeat (first
        | refine QV QP ?_ | refine QZ ?_ | refine qcT rfl ?_ | refine qcF rfl ?_ | refine E_blockX ?_ | refine E_blockO rfl ?_
        | refine qs rfl rfl rfl rfl rfl rfl ?_
        | ((try refine qg rfl rfl rfl ?_); first | refine QV QP ?_ | refine QV QL ?_ | refine QV QA ?_ | refine QV (rr_not rfl rfl) ?_ | refine QV QlT ?_ | refine QV QlF ?_ | refine QV QeT ?_ | refine QV QeF ?_ | refine QV QnT ?_ | refine QV QnF ?_ | refine QV QaA ?_))
      refine TL_new rfl fun g14 => ?_
      conv => arg 8; simp only [zA, zB, zC, zD, zE, zF, zG, zH, zI, rowS, ret, id_eq]
      repeat (first
        | refine QV QP ?_ | refine QZ ?_ | refine qcT rfl ?_ | refine qcF rfl ?_ | refine E_blockX ?_ | refine E_blockO rfl ?_
        | refine qs rfl rfl rfl rfl rfl rfl ?_
        | ((try refine qg rfl rfl rfl ?_); first | refine QV QP ?_ | refine QV QL ?_ | refine QV QA ?_ | refine QV (rr_not rfl rfl) ?_ | refine QV QlT ?_ | refine QV QlF ?_ | refine QV QeT ?_ | refine QV QeF ?_ | refine QV QnT ?_ | refine QV QnF ?_ | refine QV QaA ?_))
      refine TL_storeB (i := 7) (cs' := (heldC (a : Int) u e).toArray) rfl rfl rfl rfl rfl rfl ?_
      conv => arg 8; simp only [zA, zB, zC, zD, zE, zF, zG, zH, zI, rowS, ret, id_eq]
      refine TL_know (i := 3) rfl row_slm fun hrow => ?_
      obtain ⟨aq, cq, rfl, hmq, haq⟩ := hrow
      have hln : us.length = N.length := j2
      clear hft hb0 j3 j4
      have hcl1 := fun w' h => cloneTkC_calls (.slice b1 l.length k1) l w' h (by omega)
      have hcl2 := fun w' h => cloneTkC_calls (.slice b2 out.length k2) out w' h (by omega)
      have heq1 := fun va w' h h' => equalTkE_calls va (.slice b1 l.length k1) l l w' h h'
      have heq2 := fun va w' h h' => equalTkE_calls va (.slice b2 out.length k2) out out w' h h'
      rw [decide_eq_true rfl] at heq1 heq2
      rcases hle with rfl | rfl
      all_goals
        repeat (first
          | refine QV QP ?_ | refine QZ ?_ | refine qcT rfl ?_ | refine qcF rfl ?_ | refine E_blockX ?_ | refine E_blockO rfl ?_
          | refine qs rfl rfl rfl rfl rfl rfl ?_
          | ((try refine qg rfl rfl rfl ?_); first | refine QV QP ?_ | refine QV (rr_neq (b := false) rfl rfl (decide_eq_false (by decide))) ?_ | refine QV (rr_neq (b := true) rfl rfl (decide_eq_true (by decide))) ?_ | refine QV QL ?_ | refine QV QA ?_ | refine QV (rr_not rfl rfl) ?_ | refine QV QlT ?_ | refine QV QlF ?_ | refine QV QeT ?_ | refine QV QeF ?_ | refine QV QnT ?_ | refine QV QnF ?_ | refine QV QaA ?_))
        repeat (first
          | refine QV QP ?_ | refine QZ ?_ | refine qcT rfl ?_ | refine qcF rfl ?_ | refine E_blockX ?_ | refine E_blockO rfl ?_
          | refine qs rfl rfl rfl rfl rfl rfl ?_
          | ((try refine qg rfl rfl rfl ?_); first | refine QV QP ?_ | refine QV (rr_loadB (i := 0) TyC.ty rfl rfl (pk_size _ _ _)) ?_ | refine QV (rr_loadB (i := 1) TyC.ty rfl rfl (pk_size _ _ _)) ?_ | refine QV QL ?_ | refine QV QA ?_ | refine QV (rr_not rfl rfl) ?_ | refine QV QlT ?_ | refine QV QlF ?_ | refine QV QeT ?_ | refine QV QeF ?_ | refine QV QnT ?_ | refine QV QnF ?_ | refine QV QaA ?_))
        refine TL_call (he2 EntersC.en rfl rfl rfl) (fun w hm => hSm _ _ w hm.below (Mem.rom (i := 2) (j := 3) (k := 4) hm rfl rfl rfl hrl hok (by omega))) rfl rfl rfl ?_
        intro _ _
        conv => arg 8; simp only [zA, zB, zC, zD, zE, zF, zG, zH, zI, rowS, ret, id_eq]
        repeat (first
          | refine QV QP ?_ | refine QZ ?_ | refine qcT rfl ?_ | refine qcF rfl ?_ | refine E_blockX ?_ | refine E_blockO rfl ?_
          | refine qs rfl rfl rfl rfl rfl rfl ?_
          | ((try refine qg rfl rfl rfl ?_); first | refine QV QP ?_ | refine QV (rr_load1 (v := romV gT tags) TyC.ty rfl (at_blk (i := 1) rfl (pk_tags _ _ _))) ?_ | refine QV QL ?_ | refine QV QA ?_ | refine QV (rr_not rfl rfl) ?_ | refine QV QlT ?_ | refine QV QlF ?_ | refine QV QeT ?_ | refine QV QeF ?_ | refine QV QnT ?_ | refine QV QnF ?_ | refine QV QaA ?_))
        refine TL_gcall (he2 EntersC.en rfl rfl rfl) (fun w hm => filledSmIr_calls gT (tags.length + 3) tags 99 w (by omega) (by omega) (fun j u hj => at_blk (i := 4) rfl (romC_get2 hj) w hm)) rfl rfl rfl rfl rfl ?_
        intro _ _
        conv => arg 8; simp only [zA, zB, zC, zD, zE, zF, zG, zH, zI, rowS, ret, id_eq]
        repeat (first
          | refine QV QP ?_ | refine QZ ?_ | refine qcT rfl ?_ | refine qcF rfl ?_ | refine E_blockX ?_ | refine E_blockO rfl ?_
          | refine qs rfl rfl rfl rfl rfl rfl ?_
          | ((try refine qg rfl rfl rfl ?_); first | refine QV QP ?_ | refine QV (rr_load1 (v := .slice aq N.length cq) TyC.ty rfl (at_blk (i := 1) rfl (pk_next _ _ _))) ?_ | refine QV QL ?_ | refine QV QA ?_ | refine QV (rr_not rfl rfl) ?_ | refine QV QlT ?_ | refine QV QlF ?_ | refine QV QeT ?_ | refine QV QeF ?_ | refine QV QnT ?_ | refine QV QnF ?_ | refine QV QaA ?_))
        refine TL_gcall (he2 EntersC.en rfl rfl rfl) (fun w hm => romAll_calls hrl (by have h := hm.get (i := 3) rfl; rw [← hln] at h; rw [← hln]; exact h) (hm.get (i := 2) rfl)) rfl rfl rfl rfl rfl ?_
        intro _ _
        conv => arg 8; simp only [zA, zB, zC, zD, zE, zF, zG, zH, zI, rowS, ret, id_eq]
        repeat (first
          | refine QV QP ?_ | refine QZ ?_ | refine qcT rfl ?_ | refine qcF rfl ?_ | refine E_blockX ?_ | refine E_blockO rfl ?_
          | refine qs rfl rfl rfl rfl rfl rfl ?_
          | ((try refine qg rfl rfl rfl ?_); first | refine QV QP ?_ | refine QV QL ?_ | refine QV QA ?_ | refine QV (rr_not rfl rfl) ?_ | refine QV QlT ?_ | refine QV QlF ?_ | refine QV QeT ?_ | refine QV QeF ?_ | refine QV QnT ?_ | refine QV QnF ?_ | refine QV QaA ?_))
        refine TL_call (he1 EntersC.en rfl rfl) (fun w hm => hcl1 w (sl_row (i := 5) rfl w hm)) rfl rfl rfl ?_
        intro va _
        conv => arg 8; simp only [zA, zB, zC, zD, zE, zF, zG, zH, zI, rowS, ret, id_eq]
        repeat (first
          | refine QV QP ?_ | refine QZ ?_ | refine qcT rfl ?_ | refine qcF rfl ?_ | refine E_blockX ?_ | refine E_blockO rfl ?_
          | refine qs rfl rfl rfl rfl rfl rfl ?_
          | ((try refine qg rfl rfl rfl ?_); first | refine QV QP ?_ | refine QV QL ?_ | refine QV QA ?_ | refine QV (rr_not rfl rfl) ?_ | refine QV QlT ?_ | refine QV QlF ?_ | refine QV QeT ?_ | refine QV QeF ?_ | refine QV QnT ?_ | refine QV QnF ?_ | refine QV QaA ?_))
        refine TL_call (he1 EntersC.en rfl rfl) (fun w hm => hcl2 w (sl_row (i := 6) rfl w hm)) rfl rfl rfl ?_
        intro vb _
        conv => arg 8; simp only [zA, zB, zC, zD, zE, zF, zG, zH, zI, rowS, ret, id_eq]
        repeat (first
          | refine QV QP ?_ | refine QZ ?_ | refine qcT rfl ?_ | refine qcF rfl ?_ | refine E_blockX ?_ | refine E_blockO rfl ?_
          | refine qs rfl rfl rfl rfl rfl rfl ?_
          | ((try refine qg rfl rfl rfl ?_); first | refine QV QP ?_ | refine QV (rr_load1 (v := .slice aq N.length cq) TyC.ty rfl (at_blk (i := 1) rfl (pk_next _ _ _))) ?_ | refine QV QL ?_ | refine QV QA ?_ | refine QV (rr_not rfl rfl) ?_ | refine QV QlT ?_ | refine QV QlF ?_ | refine QV QeT ?_ | refine QV QeF ?_ | refine QV QnT ?_ | refine QV QnF ?_ | refine QV QaA ?_))
        refine T_reown (i := 2) (strO F us) rfl (fun w h => rom_str hrl h) (fun k hk => hk.elim (fun h => by cases h) .inr) ?_
        refine T_pick [3, 2, 5, 6, 8, 9] (by decide) rfl ?_
        refine T_loop (ι := Nat) (fun j => j ≤ N.length) (fun j => [(11, .slice b1 l.length k1), (15, .slice b2 out.length k2), (16, .int .i64 e), (17, va), (18, vb), (104, .slice aq N.length cq), (105, .int .i64 (N.length : Int)), (106, .int .i64 (j : Int))])
          (fun j => [rowO 24 1 (.slice aq N.length cq) N.length (us.flatMap one1), strO F us, toksO (.slice b1 l.length k1) l, toksO (.slice b2 out.length k2) out, toksO va l, toksO vb out]) (fun j => N.length - j) 0 (Nat.zero_le _) (by repeat' (first | exact True.intro | refine And.intro rfl ?_)) rfl ?_
        intro j hj
        by_cases c2 : j < N.length
        · obtain ⟨gq, rfl⟩ := haq (by omega)
          have c3 : j < us.length := by omega
          have hrow : ∀ (L : List Own) (hi : L[0]? = some (rowO 24 1 (.slice (some ⟨gq, 0, none⟩) N.length cq) N.length (us.flatMap one1))), At (w : Base) L ⟨gq, 0 + j * 1 + 0, none⟩ us[j] := fun L hi => at_rowel one1_len hi c3 0 _ rfl
          have hmem := List.getElem_mem c3
          clear hSm
          generalize us[j] = u1 at *
          repeat (first
            | refine QV QP ?_ | refine QZ ?_ | refine qcT rfl ?_ | refine qcF rfl ?_ | refine E_blockX ?_ | refine E_blockO rfl ?_
            | refine qs rfl rfl rfl rfl rfl rfl ?_
            | ((try refine qg rfl rfl rfl ?_); first | refine QV QP ?_ | refine QV (rr_idxc Und.eq TyC.ty rfl rfl c2) ?_ | refine QV (rr_load1 (v := u1) TyC.ty rfl (hrow _ rfl)) ?_ | refine QV QL ?_ | refine QV QA ?_ | refine QV (rr_not rfl rfl) ?_ | refine QV QlT ?_ | refine QV QlF ?_ | refine QV QeT ?_ | refine QV QeF ?_ | refine QV QnT ?_ | refine QV QnF ?_ | refine QV QaA ?_))
          refine TL_openStr (i := 1) rfl hmem (fun hu => ?_) fun gu mu cu2 csu hu z1 z2 z3 => ?_
          · subst hu
            refine TL_call (he2 EntersC.en rfl rfl rfl) (fun w hm => spoilNilSmIr_calls (-1) w) rfl rfl rfl ?_
            intro _ _
            conv => arg 8; simp only [zA, zB, zC, zD, zE, zF, zG, zH, zI, rowS, ret, id_eq]
            repeat (first
              | refine QV QP ?_ | refine QZ ?_ | refine qcT rfl ?_ | refine qcF rfl ?_ | refine E_blockX ?_ | refine E_blockO rfl ?_
              | refine qs rfl rfl rfl rfl rfl rfl ?_
              | ((try refine qg rfl rfl rfl ?_); first | refine QV QP ?_ | refine QV QL ?_ | refine QV QA ?_ | refine QV (rr_not rfl rfl) ?_ | refine QV QlT ?_ | refine QV QlF ?_ | refine QV QeT ?_ | refine QV QeF ?_ | refine QV QnT ?_ | refine QV QnF ?_ | refine QV QaA ?_))
            exact E_round (j + 1) (by omega) (by show N.length - (j + 1) < N.length - j; omega) (by repeat' (first | exact True.intro | refine And.intro rfl ?_)) rfl
          · subst hu
            conv => arg 8; simp only [zA, zB, zC, zD, zE, zF, zG, zH, zI, rowS, ret, id_eq]
            refine TL_callB [6] [0, 1, 2, 3, 4, 5] (by decide) rfl rfl (he2 EntersC.en rfl rfl rfl) (fun w hm hb => spoilSmIr_calls gu mu cu2 csu (-1) w _ z1 z2 z3 rfl hb) rfl rfl rfl ?_
            intro _ _
            conv => arg 8; simp only [zA, zB, zC, zD, zE, zF, zG, zH, zI, rowS, ret, id_eq]
            repeat (first
              | refine QV QP ?_ | refine QZ ?_ | refine qcT rfl ?_ | refine qcF rfl ?_ | refine E_blockX ?_ | refine E_blockO rfl ?_
              | refine qs rfl rfl rfl rfl rfl rfl ?_
              | ((try refine qg rfl rfl rfl ?_); first | refine QV QP ?_ | refine QV QL ?_ | refine QV QA ?_ | refine QV (rr_not rfl rfl) ?_ | refine QV QlT ?_ | refine QV QlF ?_ | refine QV QeT ?_ | refine QV QeF ?_ | refine QV QnT ?_ | refine QV QnF ?_ | refine QV QaA ?_))
            refine E_merge (strO F us) 1 6 [0, 2, 3, 4, 5] (by decide) rfl rfl rfl str_foot (fun w h1 h2 => str_close h1 h2 (by simp [kit.intC])) ?_
            refine E_pick [0, 5, 1, 2, 3, 4] (by decide) rfl ?_
            exact E_round (j + 1) (by omega) (by show N.length - (j + 1) < N.length - j; omega) (by repeat' (first | exact True.intro | refine And.intro rfl ?_)) rfl
        · obtain rfl : j = N.length := by omega
          clear hSm
          repeat (first
            | refine QV QP ?_ | refine QZ ?_ | refine qcT rfl ?_ | refine qcF rfl ?_ | refine E_blockX ?_ | refine E_blockO rfl ?_
            | refine qs rfl rfl rfl rfl rfl rfl ?_
            | ((try refine qg rfl rfl rfl ?_); first | refine QV QP ?_ | refine QV QL ?_ | refine QV QA ?_ | refine QV (rr_not rfl rfl) ?_ | refine QV QlT ?_ | refine QV QlF ?_ | refine QV QeT ?_ | refine QV QeF ?_ | refine QV QnT ?_ | refine QV QnF ?_ | refine QV QaA ?_))
          refine TL_call (he2 EntersC.en rfl rfl rfl) (fun w hm => heq1 _ w (sl_row (i := 4) rfl w hm) (sl_row (i := 2) rfl w hm)) rfl rfl rfl ?_
          intro _ _
          conv => arg 8; simp only [zA, zB, zC, zD, zE, zF, zG, zH, zI, rowS, ret, id_eq]
          repeat (first
            | refine QV QP ?_ | refine QZ ?_ | refine qcT rfl ?_ | refine qcF rfl ?_ | refine E_blockX ?_ | refine E_blockO rfl ?_
            | refine qs rfl rfl rfl rfl rfl rfl ?_
            | ((try refine qg rfl rfl rfl ?_); first | refine QV QP ?_ | refine QV QL ?_ | refine QV QA ?_ | refine QV (rr_not rfl rfl) ?_ | refine QV QlT ?_ | refine QV QlF ?_ | refine QV QeT ?_ | refine QV QeF ?_ | refine QV QnT ?_ | refine QV QnF ?_ | refine QV QaA ?_))
          refine TL_gcall (he2 EntersC.en rfl rfl rfl) (fun w hm => heq2 _ w (sl_row (i := 5) rfl w hm) (sl_row (i := 3) rfl w hm)) rfl rfl rfl rfl rfl ?_
          intro _ _
          conv => arg 8; simp only [zA, zB, zC, zD, zE, zF, zG, zH, zI, rowS, ret, id_eq]
          rcases hes with rfl | rfl | rfl
          all_goals
            repeat (first
              | refine QV QP ?_ | refine QZ ?_ | refine qcT rfl ?_ | refine qcF rfl ?_ | refine E_blockX ?_ | refine E_blockO rfl ?_
              | refine qs rfl rfl rfl rfl rfl rfl ?_
              | ((try refine qg rfl rfl rfl ?_); first | refine QV QP ?_ | refine QV (rr_eql (b := true) rfl rfl (decide_eq_true rfl)) ?_ | refine QV (rr_eql (b := false) rfl rfl (decide_eq_false (by decide))) ?_ | refine QV QL ?_ | refine QV QA ?_ | refine QV (rr_not rfl rfl) ?_ | refine QV QlT ?_ | refine QV QlF ?_ | refine QV QeT ?_ | refine QV QeF ?_ | refine QV QnT ?_ | refine QV QnF ?_ | refine QV QaA ?_))
            exact E_ret1e rfl rfl rfl
end Go.Proofs.Ytkmemlnkijinlaa.lexerOwn

