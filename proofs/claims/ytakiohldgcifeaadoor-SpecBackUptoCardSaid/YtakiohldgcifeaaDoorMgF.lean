/- Part 6 of what SpecBackUpto needs: SpecBackW. -/
import Derived.Test.YtakiohldgcifeaaDoorMgE
import Derived.WalkKit
import Derived.WalkSpells
import Derived.WalkLawsBesides
import Derived.Deep.RegionLaw
import Derived.Deep.AppendLies
import Derived.Deep.QuietTactic
import Derived.BigQuiet
import Derived.Deep.DeepCutAuto
import Derived.Lib.Hide
import Derived.Test.YtakiohldgcifeaaDoorRows
import Derived.ProofKit
import Derived.OpenShut
import Derived.ShutString
import Derived.SizedLaws
import Derived.JoinedCond
import Derived.Deep.CondSized
import Derived.Deep.Quiet
import Derived.StillTail
import Derived.Deep.LoopGhost
import Derived.Laws.BitsLemmas
import Derived.Laws.BytesString
import Derived.Test.YtakiohldgcifeaaDoorProg
import Derived.Laws.Entries
import Derived.Laws.BitsAllLaws
import Derived.Laws.StructEq
import Derived.ChangeKeysEq
import Derived.Lib.TrailingZeros
import Derived.Laws.MakeOwn
import Derived.Laws.AppendOwn
import Derived.Laws.Bits64b
import Derived.Shelf.Strings.Builder1
import Derived.Shelf.Small.Wraps
import Derived.Shelf.Strings.Cut
import Derived.Shelf.LaysM
import Derived.Shelf.Strings.Shaped
import Derived.Shelf.Strings.Split
import Derived.Lib.Strings
import Derived.Lib.Slices
import Derived.Lib.Walk
import Derived.Lib.Bytealg
import Derived.Maps.OwnSet
import Derived.DeepKeys4
import Derived.WideKeyEntry
import Derived.Lib.IndexMore
import Derived.Lib.Split
import Derived.Lib.IndexBytes
import Derived.StringKeys
import Derived.Handed
import Derived.Lay
import Derived.Lib.LaidTab
import Derived.MakeChecks
/- SpecBackW -/
namespace Go.Proofs.YtakiohldgcifeaaDoor.specBack
open Go.RowKit kit mix classL rexL specL eng specAgain
def lstW (a s : C4) : List Wd := [([97], .mk 3 a []), ([], .mk 3 s [])]
def lstR : List Rl := [([108], [[97], [109]]), ([109], []), ([109], [[97], [109]])]
theorem const_ok : checkS ⟨lstW (rangeF 97 97) (rangeF 32 32), lstR⟩ = 0 := by kernel_rfl
theorem const_a : body (.byte (rangeF 97 97)) = [97] := by kernel_rfl
theorem const_s : body (.byte (rangeF 32 32)) = [92, 115] := by kernel_rfl
theorem const_write : writeS ⟨lstW (rangeF 97 97) (rangeF 32 32), lstR⟩ = [116, 111, 107, 101, 110, 32, 97, 32, 97, 10, 115, 107, 105, 112, 32, 92, 115, 10, 114, 117, 108, 101, 32, 108, 32, 61, 32, 97, 32, 109, 10, 114, 117, 108, 101, 32, 109, 32, 61, 10, 114, 117, 108, 101, 32, 109, 32, 61, 32, 97, 32, 109, 10] := by
  have h1 : txtX (.mk 3 (rangeF 97 97) []) = [97] := (txt_emb (.byte (rangeF 97 97))).trans const_a
  have h2 : txtX (.mk 3 (rangeF 32 32) []) = [92, 115] := (txt_emb (.byte (rangeF 32 32))).trans const_s
  simp [writeS, lstW, lstR, lineW, lineR, h1, h2, skT, tkT, ruT]
theorem build_word1 (k : Int) (c : C4) (w : World) : (Instr.build 41 #[(1, .agg (rexC k c (.slice none 0 0)).toArray)]).run Tryd.prog w = .ok (.agg (wdC [] k c (.slice none 0 0)).toArray) w := by kernel_rfl
theorem build_rule2 (n : Bs) (g : Nat) (w : World) : (Instr.build 57 #[(0, str n), (1, .slice (some ⟨g, 0, none⟩) 2 2)]).run Tryd.prog w = .ok (.agg #[str n, .slice (some ⟨g, 0, none⟩) 2 2]) w := by kernel_rfl
theorem build_spec2 (a b : Option Addr) (m c n d : Nat) (w : World) : (Instr.build 25 #[(0, .slice a m c), (1, .slice b n d)]).run Tryd.prog w = .ok (.agg #[.slice a m c, .slice b n d]) w := by kernel_rfl
structure LstX where
  g1 : Nat
  g2 : Nat
  g3 : Nat
  g4 : Nat
def rlC (n : Bs) (v : Value) : List Value := [str n, v]
def lstS (a s : C4) : eng.Spec LstX := ⟨fun _ => True, fun x => .agg #[.slice (some ⟨x.g1, 0, none⟩) 2 2, .slice (some ⟨x.g4, 0, none⟩) 3 3], fun x => [blkO x.g1 (wdC [97] 3 a (.slice none 0 0) ++ wdC [] 3 s (.slice none 0 0)).toArray 41, blkO x.g2 #[str [97], str [109]] 9, blkO x.g3 #[str [97], str [109]] 9,
  blkO x.g4 #[str [108], .slice (some ⟨x.g2, 0, none⟩) 2 2, str [109], .slice none 0 0, str [109], .slice (some ⟨x.g3, 0, none⟩) 2 2] 57]⟩
set_option maxRecDepth 100000 in
set_option maxHeartbeats 2000000 in
theorem list_calls (w : World) : Calls Tryd.prog 6 #[] w (Meets (lstS (rangeF 97 97) (rangeF 32 32)) w) := by
  have hl := fun w => letter_calls 97 w ⟨by decide, by decide⟩
  have hl2 := fun w => letter_calls 32 w ⟨by decide, by decide⟩
  generalize rangeF 97 97 = ca at *
  generalize rangeF 32 32 = cs at *
  refine enter (args := []) (n := 13) Tryd.func6 rfl rfl rfl ?_
  refine T_seq (T_region (TL_new rfl fun g0 => ?_))
  conv=>arg 8;simp only[zA,zB,zC,zD,zE,zF,zG,zH,zI,rowS,ret,id_eq]
  repeat(first|refine QZ ?_)
  refine TL_call (he1 EntersC.en rfl rfl) (fun w hm => hl w) rfl rfl rfl ?_
  intro _ _
  conv=>arg 8;simp only[zA,zB,zC,zD,zE,zF,zG,zH,zI,rowS,ret,id_eq]
  repeat(first|refine QZ ?_|refine QV (rr_build rfl (build_word _ _ _ _ _ _)) ?_)
  refine TL_call (he1 EntersC.en rfl rfl) (fun w hm => hl2 w) rfl rfl rfl ?_
  intro _ _
  conv=>arg 8;simp only[zA,zB,zC,zD,zE,zF,zG,zH,zI,rowS,ret,id_eq]
  repeat(first|refine QZ ?_|refine QV (rr_build rfl (build_word1 _ _)) ?_)
  refine TL_litN (cs := (wdC [97] 3 ca (.slice none 0 0) ++ wdC [] 3 cs (.slice none 0 0)).toArray) [.agg (wdC [97] 3 ca (.slice none 0 0)).toArray, .agg (wdC [] 3 cs (.slice none 0 0)).toArray] rfl rfl rfl (by intro v hv; simp only [List.mem_cons, List.not_mem_nil, or_false] at hv; rcases hv with rfl | rfl <;> rfl) rfl rfl rfl fun g5 => ?_
  conv=>arg 8;simp only[zA,zB,zC,zD,zE,zF,zG,zH,zI,rowS,ret,id_eq]
  refine TL_litN (cs := #[str [97], str [109]]) [str [97], str [109]] rfl rfl rfl (by intro v hv; simp only [List.mem_cons, List.not_mem_nil, or_false] at hv; rcases hv with rfl | rfl <;> rfl) rfl rfl rfl fun g6 => ?_
  conv=>arg 8;simp only[zA,zB,zC,zD,zE,zF,zG,zH,zI,rowS,ret,id_eq]
  repeat(first|refine QZ ?_|refine QV (rr_build rfl (build_rule2 _ _)) ?_|refine QV (rr_build rfl (build_rule1 _)) ?_)
  refine TL_litN (cs := #[str [97], str [109]]) [str [97], str [109]] rfl rfl rfl (by intro v hv; simp only [List.mem_cons, List.not_mem_nil, or_false] at hv; rcases hv with rfl | rfl <;> rfl) rfl rfl rfl fun g9 => ?_
  conv=>arg 8;simp only[zA,zB,zC,zD,zE,zF,zG,zH,zI,rowS,ret,id_eq]
  repeat(first|refine QZ ?_|refine QV (rr_build rfl (build_rule2 _ _)) ?_)
  refine TL_litN (cs := #[str [108], .slice (some ⟨g6, 0, none⟩) 2 2, str [109], .slice none 0 0, str [109], .slice (some ⟨g9, 0, none⟩) 2 2]) [.agg #[str [108], .slice (some ⟨g6, 0, none⟩) 2 2], .agg #[str [109], .slice none 0 0], .agg #[str [109], .slice (some ⟨g9, 0, none⟩) 2 2]] rfl rfl rfl (by intro v hv; simp only [List.mem_cons, List.not_mem_nil, or_false] at hv; rcases hv with rfl | rfl | rfl <;> rfl) rfl rfl rfl fun g11 => ?_
  conv=>arg 8;simp only[zA,zB,zC,zD,zE,zF,zG,zH,zI,rowS,ret,id_eq]
  repeat(first|refine QZ ?_|refine QV (rr_build rfl (build_spec2 _ _ _ _ _ _)) ?_)
  refine TL_storeB (i := 0) (cs' := #[.slice (some ⟨g5, 0, none⟩) 2 2, .slice (some ⟨g11, 0, none⟩) 3 3]) rfl rfl rfl rfl rfl rfl ?_
  conv=>arg 8;simp only[zA,zB,zC,zD,zE,zF,zG,zH,zI,rowS,ret,id_eq]
  repeat(first|refine QZ ?_)
  exact E_retc1 (i := 0) rfl rfl rfl rfl fun w hm => hm.meets (S := lstS ca cs) ⟨g5, g6, g9, g11⟩ trivial [1, 2, 3, 4] (by decide) rfl
theorem nle {n : Nat} (h : n ≤ 10 := by exact Nat.le_of_ble_eq_true rfl) : n ≤ 9223372036854775807 := by omega
theorem two_str {w : World} {g : Nat} (h : (blkO g #[str [97], str [109]] 9).holds w) : SlF strS (Low w) w (.slice (some ⟨g, 0, none⟩) 2 2) [[97], [109]] := by
  have hb : w.heap[g]? = some (.cells #[str [97], str [109]] 9 (0, 0)) := h
  refine ⟨_, 2, rfl, Nat.le_refl _, by decide, fun _ => ⟨g, 0, rfl, (Array.getElem?_eq_some_iff.1 hb).1, fun i hi => ⟨[str ([[97], [109]] : List Bs)[i]], ⟨rfl, ?_⟩, fun j u hj => ?_⟩⟩⟩
  · match i, hi with
    | 0, _ => exact (by decide : (1 : Nat) ≤ 9223372036854775807)
    | 1, _ => exact (by decide : (1 : Nat) ≤ 9223372036854775807)
  · rw [cell_of_row w g _ _ _ _ hb]
    match i, hi, j, hj with
    | 0, _, 0, hj => exact hj
    | 1, _, 0, hj => exact hj
theorem list_sp {w : World} {a s : C4} {x : LstX} (h1 : (blkO x.g1 (wdC [97] 3 a (.slice none 0 0) ++ wdC [] 3 s (.slice none 0 0)).toArray 41).holds w) (h2 : (blkO x.g2 #[str [97], str [109]] 9).holds w) (h3 : (blkO x.g3 #[str [97], str [109]] 9).holds w)
    (h4 : (blkO x.g4 #[str [108], .slice (some ⟨x.g2, 0, none⟩) 2 2, str [109], .slice none 0 0, str [109], .slice (some ⟨x.g3, 0, none⟩) 2 2] 57).holds w) : SpR (Low w) w (.agg #[.slice (some ⟨x.g1, 0, none⟩) 2 2, .slice (some ⟨x.g4, 0, none⟩) 3 3]) ⟨lstW a s, lstR⟩ := by
  have hb1 : w.heap[x.g1]? = some (.cells (wdC [97] 3 a (.slice none 0 0) ++ wdC [] 3 s (.slice none 0 0)).toArray 41 (0, 0)) := h1
  have hb4 : w.heap[x.g4]? = some (.cells #[str [108], .slice (some ⟨x.g2, 0, none⟩) 2 2, str [109], .slice none 0 0, str [109], .slice (some ⟨x.g3, 0, none⟩) 2 2] 57 (0, 0)) := h4
  have hx : ∀ c, RexIs (Low w) w (rexC 3 c (.slice none 0 0)) (.mk 3 c []) := fun c => rex_iff.2 ⟨_, rfl, ⟨by decide, by decide⟩, SlF.nil⟩
  refine ⟨_, _, rfl, ⟨_, 2, rfl, Nat.le_refl _, by decide, fun _ => ⟨x.g1, 0, rfl, (Array.getElem?_eq_some_iff.1 hb1).1, fun i hi => ?_⟩⟩, ⟨_, 3, rfl, Nat.le_refl _, by decide, fun _ => ⟨x.g4, 0, rfl, (Array.getElem?_eq_some_iff.1 hb4).1, fun i hi => ?_⟩⟩⟩
  · match i, hi with
    | 0, _ =>
      refine ⟨wdC [97] 3 a (.slice none 0 0), ⟨[str [97]], _, rfl, ⟨rfl, nle⟩, hx a⟩, fun j u hj => ?_⟩
      rw [cell_of_row w x.g1 _ _ _ _ hb1, List.getElem?_toArray, Nat.zero_mul, Nat.zero_add, List.getElem?_append_left (List.getElem?_eq_some_iff.1 hj).1]
      exact hj
    | 1, _ =>
      refine ⟨wdC [] 3 s (.slice none 0 0), ⟨[str []], _, rfl, ⟨rfl, nle⟩, hx s⟩, fun j u hj => ?_⟩
      rw [cell_of_row w x.g1 _ _ _ _ hb1, List.getElem?_toArray]
      show (wdC [97] 3 a (.slice none 0 0) ++ wdC [] 3 s (.slice none 0 0))[0 + 1 * 7 + j]? = some u
      rw [List.getElem?_append_right (by show 7 ≤ _; omega), show 0 + 1 * 7 + j - (wdC [97] 3 a (.slice none 0 0)).length = j from by show 0 + 1 * 7 + j - 7 = j; omega]
      exact hj
  · match i, hi with
    | 0, _ =>
      refine ⟨rlC [108] (.slice (some ⟨x.g2, 0, none⟩) 2 2), ⟨[str [108]], [_], rfl, ⟨rfl, nle⟩, _, rfl, two_str h2⟩, fun j u hj => ?_⟩
      rw [cell_of_row w x.g4 _ _ _ _ hb4]
      match j, hj with
      | 0, hj => exact hj
      | 1, hj => exact hj
    | 1, _ =>
      refine ⟨rlC [109] (.slice none 0 0), ⟨[str [109]], [_], rfl, ⟨rfl, nle⟩, _, rfl, SlF.nil⟩, fun j u hj => ?_⟩
      rw [cell_of_row w x.g4 _ _ _ _ hb4]
      match j, hj with
      | 0, hj => exact hj
      | 1, hj => exact hj
    | 2, _ =>
      refine ⟨rlC [109] (.slice (some ⟨x.g3, 0, none⟩) 2 2), ⟨[str [109]], [_], rfl, ⟨rfl, nle⟩, _, rfl, two_str h3⟩, fun j u hj => ?_⟩
      rw [cell_of_row w x.g4 _ _ _ _ hb4]
      match j, hj with
      | 0, hj => exact hj
      | 1, hj => exact hj
/-- is a word's text too long? -/
theorem long1_calls (n : Bs) (r : Rx) (b : Option Addr) (c : Nat) (w : World) (hT : TabW w) (hr : chkX r = 0) (h : RexR (Low w) w (rexV r.kind r.cls (.slice b r.kids.length c)) r) :
    Calls Tryd.prog 10 #[.agg (wdC n r.kind r.cls (.slice b r.kids.length c)).toArray] w (Meets (ret (.bool (decide (300 < (txtX r).length)))) w) := by
  obtain ⟨e, he, hf⟩ := chkX_re hr
  have h2 : RexR (Low w) w (rexV r.kind r.cls (.slice b r.kids.length c)) (emb e) := by rw [← he]; exact h
  have hpr := fun w' (hT' : TabW w') (hg : Gr w w') => print_calls (rexV r.kind r.cls (.slice b r.kids.length c)) e w' hT' (h2.gr hg) hf
  have htx : txtX r = body e := by rw [he, txt_emb]
  rw [htx]
  clear h h2 he htx
  generalize body e = tx at *
  generalize r.kind = k at *
  generalize r.cls = cl at *
  generalize r.kids.length = m at *
  refine enter (args := [.agg (wdC n k cl (.slice b m c)).toArray]) (n := 14) Tryd.func10 rfl rfl rfl ?_
  refine T_seq (T_region (TL_box rfl rfl rfl fun g1 => ?_))
  conv=>arg 8;simp only[zA,zB,zC,zD,zE,zF,zG,zH,zI,rowS,ret,id_eq]
  repeat(first|refine QV QP ?_|refine QZ ?_|refine QV (rr_loadN (cs := rexC k cl (.slice b m c)) TyC.ty rfl rfl (fun j v hj => at_blk (i := 0) rfl (wd_rex hj))) ?_|refine QV QS ?_|refine QV QA ?_|refine QV QgT ?_|refine QV QgF ?_)
  refine TL_call (he1 EntersC.en rfl rfl) (fun w hm => hpr w (hT.up hm) hm.below) rfl rfl rfl ?_
  intro _ _
  conv=>arg 8;simp only[zA,zB,zC,zD,zE,zF,zG,zH,zI,rowS,ret,id_eq]
  repeat(first|refine QV QP ?_|refine QZ ?_|refine QV QS ?_|refine QV (rr_gtr (b := decide (300 < tx.length)) rfl rfl (decide_eq_decide.2 (by omega))) ?_|refine QV QS ?_|refine QV QA ?_|refine QV QgT ?_|refine QV QgF ?_)
  exact E_ret1e rfl rfl rfl
theorem any_cons {α : Type} (p : α → Bool) (x : α) (l : List α) : (x :: l).any p = (p x || l.any p) := rfl
set_option maxHeartbeats 2000000 in
theorem longs_calls (v : Value) (l : List Wd) (w : World) (hT : TabW w) (h : SlF wordS (Low w) w v l) (hl : ∀ x ∈ l, chkX x.2 = 0) :
    Calls Tryd.prog 21 #[v, .func (.func 10) #[] #[]] w (Meets ⟨fun (m : Int) => (0 ≤ m ↔ (l.any fun x => decide (300 < (txtX x.2).length)) = true) ∧ kit.okI64 m, fun m => .int .i64 m, fun _ => []⟩ w) := by
  obtain ⟨base, cap, rfl, hcap, hmax, hrd⟩ := h
  unfold maxLen at hmax
  refine enter (args := [.slice base l.length cap, .func (.func 10) #[] #[]]) (n := 19) Tryd.func21 rfl rfl rfl ?_
  repeat(first|refine QV QP ?_|refine QZ ?_|refine qcT rfl ?_|refine qcF rfl ?_|refine E_blockX ?_|refine E_blockO rfl ?_|refine QV QL ?_|refine QV QlT ?_|refine QV QlF ?_|refine QV QaA ?_)
  generalize hfin : (l.any fun x => decide (300 < (txtX x.2).length)) = fin
  refine T_loop (ι := Nat) (fun k => k ≤ l.length ∧ ((l.drop k).any fun x => decide (300 < (txtX x.2).length)) = fin) (fun k => [(0, .slice base l.length cap), (1, .func (.func 10) #[] #[]), (7, .int .i64 l.length), (8, .int .i64 (k : Int))]) (fun _ => []) (fun k => l.length - k) 0 ⟨Nat.zero_le _, hfin⟩ (by repeat' (first | exact True.intro | refine And.intro rfl ?_)) rfl ?_
  rintro k ⟨h1, h2⟩
  by_cases c2 : k < l.length
  · obtain ⟨b, off, rfl, _, hr⟩ := hrd (by omega)
    obtain ⟨bk, ck, q1, q2, q3⟩ := word_at hr c2
    rw [List.drop_eq_getElem_cons c2, any_cons] at h2
    have hx := hl l[k] (List.getElem_mem c2)
    have hs := fun w' (hT' : TabW w') (hg : Gr w w') => long1_calls l[k].1 l[k].2 bk ck w' hT' hx (q2.gr hg)
    have hat := fun (L : List Own) (j : Nat) (u : Value) (hj : (wdC l[k].1 l[k].2.kind l[k].2.cls (.slice bk l[k].2.kids.length ck))[j]? = some u) => (at_old (L := L) (q1 j u hj) : At (w : Base) L ⟨b, off + k * 7 + j, none⟩ u)
    clear hr hrd q1 q2 hl
    generalize l[k] = x at *
    obtain ⟨n, r⟩ := x
    dsimp only at *
    generalize decide (300 < (txtX r).length) = lg at *
    generalize r.kind = rk at *
    generalize r.cls = rc at *
    generalize r.kids.length = m at *
    repeat(first|refine QV QP ?_|refine QZ ?_|refine qcT rfl ?_|refine qcF rfl ?_|refine E_blockX ?_|refine E_blockO rfl ?_|refine QV (rr_idxc Und.eq TyC.ty rfl rfl c2) ?_|refine QV (rr_loadN (cs := wdC n rk rc (.slice bk m ck)) TyC.ty rfl rfl (hat _)) ?_|refine QV QL ?_|refine QV QlT ?_|refine QV QlF ?_|refine QV QaA ?_)
    refine TL_call (he1 EntersC.en rfl rfl) (fun w' hm => hs w' (hT.up hm) hm.below) rfl rfl rfl ?_
    intro _ _
    conv=>arg 8;simp only[zA,zB,zC,zD,zE,zF,zG,zH,zI,rowS,ret,id_eq]
    cases lg with
    | true =>
      rw [Bool.true_or] at h2
      subst h2
      repeat(first|refine QV QP ?_|refine QZ ?_|refine qcT rfl ?_|refine qcF rfl ?_|refine E_blockX ?_|refine E_blockO rfl ?_|refine QV QL ?_|refine QV QlT ?_|refine QV QlF ?_|refine QV QaA ?_)
      exact E_ret1 rfl rfl fun w hm => hm.meets (S := ⟨fun (m : Int) => (0 ≤ m ↔ true = true) ∧ kit.okI64 m, fun m => .int .i64 m, fun _ => []⟩) (k : Int) ⟨⟨fun _ => rfl, fun _ => Int.natCast_nonneg _⟩, by constructor <;> omega⟩ [] (by decide) rfl
    | false =>
      rw [Bool.false_or] at h2
      repeat(first|refine QV QP ?_|refine QZ ?_|refine qcT rfl ?_|refine qcF rfl ?_|refine E_blockX ?_|refine E_blockO rfl ?_|refine QV QL ?_|refine QV QlT ?_|refine QV QlF ?_|refine QV QaA ?_)
      exact E_round (k + 1) ⟨by omega, h2⟩ (by show l.length - (k + 1) < l.length - k; omega) (by repeat' (first | exact True.intro | refine And.intro rfl ?_)) rfl
  · obtain rfl : k = l.length := by omega
    rw [List.drop_length] at h2
    have h2 : false = fin := h2
    subst h2
    repeat(first|refine QV QP ?_|refine QZ ?_|refine qcT rfl ?_|refine qcF rfl ?_|refine E_blockX ?_|refine E_blockO rfl ?_|refine QV QL ?_|refine QV QlT ?_|refine QV QlF ?_|refine QV QaA ?_)
    exact E_ret1 rfl rfl fun w hm => hm.meets (S := ⟨fun (m : Int) => (0 ≤ m ↔ false = true) ∧ kit.okI64 m, fun m => .int .i64 m, fun _ => []⟩) (-1) ⟨⟨fun h => absurd h (by decide), fun h => by cases h⟩, by constructor <;> decide⟩ [] (by decide) rfl
theorem longC_calls (v : Value) (l : List Wd) (w : World) (hT : TabW w) (h : SlF wordS (Low w) w v l) (hl : ∀ x ∈ l, chkX x.2 = 0) :
    Calls Tryd.prog 9 #[v, .func (.func 10) #[] #[]] w (Meets (ret (.bool (l.any fun x => decide (300 < (txtX x.2).length)))) w) := by
  have hi := fun w' (hT' : TabW w') (hg : Gr w w') => longs_calls v l w' hT' (slf_gr h hg) hl
  generalize (l.any fun x => decide (300 < (txtX x.2).length)) = fin at *
  refine enter (args := [v, .func (.func 10) #[] #[]]) (n := 9) Tryd.func9 rfl rfl rfl ?_
  repeat(first|refine QV QP ?_|refine QZ ?_|refine QV QhT ?_|refine QV QhF ?_)
  refine TL_call (he2 EntersC.en rfl rfl rfl) (fun w hm => hi w (hT.up hm) hm.below) rfl rfl rfl ?_
  rintro m ⟨h1, h2⟩
  conv=>arg 8;simp only[zA,zB,zC,zD,zE,zF,zG,zH,zI,rowS,ret,id_eq]
  cases fin with
  | true =>
    have := h1.2 rfl
    repeat(first|refine QV QP ?_|refine QZ ?_|refine QV (rr_geq (b := true) rfl rfl (decide_eq_true this)) ?_|refine QV QhT ?_|refine QV QhF ?_)
    exact E_ret1e rfl rfl rfl
  | false =>
    have : ¬ 0 ≤ m := fun h => by have := h1.1 h; cases this
    repeat(first|refine QV QP ?_|refine QZ ?_|refine QV (rr_geq (b := false) rfl rfl (decide_eq_false this)) ?_|refine QV QhT ?_|refine QV QhF ?_)
    exact E_ret1e rfl rfl rfl
set_option maxHeartbeats 4000000 in
theorem walkM (w : World) (hT : TabW w) (hM : MaxL w) (v : Value) (s : Sp) (h : SpR (Low w) w v s) (hb8 : ∀ r ∈ s.rules, r.2.length ≤ 1048576) :
    Calls Tryd.prog 3 #[v] w (Meets (ret (.bool true)) w) := by
  have hw0 := fun (x : LstX) w' (hT' : TabW w') h1 h2 h3 h4 => spWrite_calls _ ⟨lstW (rangeF 97 97) (rangeF 32 32), lstR⟩ w' hT' (list_sp (x := x) h1 h2 h3 h4) (by intro r hr; simp [lstR] at hr; rcases hr with rfl | rfl | rfl <;> simp)
  rw [const_ok, if_pos rfl, const_write] at hw0
  have hli := list_calls
  have hwr := fun w' hT' (hg : Gr w w') => spWrite_calls v s w' hT' (h.gr hg) hb8
  have hck := fun w' (hg : Gr w w') => spCheck_calls v s w' (h.gr hg)
  have hrd := fun t w' (hg : Gr w w') => spRead_calls t w' (hM.gr hg)
  have hsm := fun v' w' (hg : Gr w w') h' => sameSpec_calls v' v s w' h' (h.gr hg)
  have hcs := check_ok (s := s)
  have hback := spec_back (s := s)
  obtain ⟨vw, vr, rfl, h1, h2⟩ := h
  have hlo := fun w' hT' (hg : Gr w w') hl => longC_calls vw s.words w' hT' (slf_gr h1 hg) hl
  obtain ⟨b1, c1, rfl, -⟩ := h1
  obtain ⟨b2, c2, rfl, -⟩ := h2
  generalize rangeF 97 97 = ca at *
  generalize rangeF 32 32 = csp at *
  generalize checkS s = ec at *
  refine enter (args := [.agg #[.slice b1 s.words.length c1, .slice b2 s.rules.length c2]]) (n := 64) Tryd.func3 rfl rfl rfl ?_
  refine T_seq (T_region (TL_box rfl rfl rfl fun g1 => ?_))
  conv=>arg 8;simp only[zA,zB,zC,zD,zE,zF,zG,zH,zI,rowS,ret,id_eq]
  repeat(first|refine QV QP ?_|refine QZ ?_|refine qcT rfl ?_|refine qcF rfl ?_|refine qs rfl rfl rfl rfl rfl rfl ?_|((try refine qg rfl rfl rfl ?_);first|refine QV QP ?_|refine QV QA ?_|refine QV QeT ?_|refine QV QeF ?_|refine QV QnT ?_|refine QV QnF ?_|refine QV QS ?_|refine QV QgT ?_|refine QV QgF ?_))
  refine TL_call (he0 EntersC.en rfl) (fun w hm => hli w) rfl rfl rfl ?_
  intro x _
  conv=>arg 8;simp only[zA,zB,zC,zD,zE,zF,zG,zH,zI,rowS,ret,id_eq, lstS]
  refine TL_call (he1 EntersC.en rfl rfl) (fun w hm => hw0 x w (hT.up hm) (hm.get (i := 1) rfl) (hm.get (i := 2) rfl) (hm.get (i := 3) rfl) (hm.get (i := 4) rfl)) rfl rfl rfl ?_
  intro _ _
  conv=>arg 8;simp only[zA,zB,zC,zD,zE,zF,zG,zH,zI,rowS,ret,id_eq]
  repeat(first|refine QV QP ?_|refine QZ ?_|refine qcT rfl ?_|refine qcF rfl ?_|refine qs rfl rfl rfl rfl rfl rfl ?_|((try refine qg rfl rfl rfl ?_);first|refine QV QP ?_|refine QV (rr_neq (b := false) rfl rfl rfl) ?_|refine QV (rr_loadB (i := 0) TyC.ty rfl rfl rfl) ?_|refine QV QA ?_|refine QV QeT ?_|refine QV QeF ?_|refine QV QnT ?_|refine QV QnF ?_|refine QV (rr_strne (b := false) rfl rfl (by decide)) ?_|refine QV QS ?_|refine QV QgT ?_|refine QV QgF ?_))
  refine TL_pick [0] (by decide) rfl ?_
  refine TL_call (he1 EntersC.en rfl rfl) (fun w hm => hwr w (hT.up hm) hm.below) rfl rfl rfl ?_
  intro _ _
  conv=>arg 8;simp only[zA,zB,zC,zD,zE,zF,zG,zH,zI,rowS,ret,id_eq]
  by_cases c0 : ec = 0
  · subst c0
    obtain ⟨-, -, hokw, -⟩ := hcs rfl
    have hback := hback rfl
    have hlo := fun w' hT' hg => hlo w' hT' hg fun x hx => (hokw x hx).2
    rw [if_pos rfl]
    have hrd := hrd (writeS s)
    generalize readS (writeS s) = R at *
    generalize writeS s = t at *
    repeat(first|refine QV QP ?_|refine QZ ?_|refine qcT rfl ?_|refine qcF rfl ?_|refine qs rfl rfl rfl rfl rfl rfl ?_|((try refine qg rfl rfl rfl ?_);first|refine QV QP ?_|refine QV QA ?_|refine QV QeT ?_|refine QV QeF ?_|refine QV QnT ?_|refine QV QnF ?_|refine QV QS ?_|refine QV QgT ?_|refine QV QgF ?_))
    refine TL_call (he1 EntersC.en rfl rfl) (fun w hm => hrd _ hm.below) rfl rfl rfl ?_
    rintro ⟨vw4, FW4, vr4, FR4⟩ _
    rcases hback with rfl | ⟨a2, rfl, hlong⟩
    · conv=>arg 8;simp only[zA,zB,zC,zD,zE,zF,zG,zH,zI,rowS,ret,id_eq, redSp]
      conv => arg 7; simp only [redSp]
      refine TL_know (i := 1) rfl (fun w h => wds_form w h) fun hf => ?_
      obtain ⟨b4, c4, rfl⟩ := hf
      refine TL_know (i := 2) rfl (fun w h => rls_form w h) fun hf => ?_
      obtain ⟨b5, c5, rfl⟩ := hf
      repeat(first|refine QV QP ?_|refine QZ ?_|refine qcT rfl ?_|refine qcF rfl ?_|refine qs rfl rfl rfl rfl rfl rfl ?_|((try refine qg rfl rfl rfl ?_);first|refine QV QP ?_|refine QV QA ?_|refine QV QeT ?_|refine QV QeF ?_|refine QV QnT ?_|refine QV QnF ?_|refine QV QS ?_|refine QV QgT ?_|refine QV QgF ?_))
      refine TL_new rfl fun g7 => ?_
      conv=>arg 8;simp only[zA,zB,zC,zD,zE,zF,zG,zH,zI,rowS,ret,id_eq]
      repeat(first|refine QV QP ?_|refine QZ ?_|refine qcT rfl ?_|refine qcF rfl ?_|refine qs rfl rfl rfl rfl rfl rfl ?_|((try refine qg rfl rfl rfl ?_);first|refine QV QP ?_|refine QV QA ?_|refine QV QeT ?_|refine QV QeF ?_|refine QV QnT ?_|refine QV QnF ?_|refine QV QS ?_|refine QV QgT ?_|refine QV QgF ?_))
      refine TL_storeB (i := 3) (cs' := #[.slice b4 s.words.length c4, .slice b5 s.rules.length c5]) rfl rfl rfl rfl rfl rfl ?_
      conv=>arg 8;simp only[zA,zB,zC,zD,zE,zF,zG,zH,zI,rowS,ret,id_eq]
      repeat(first|refine QV QP ?_|refine QZ ?_|refine qcT rfl ?_|refine qcF rfl ?_|refine qs rfl rfl rfl rfl rfl rfl ?_|((try refine qg rfl rfl rfl ?_);first|refine QV QP ?_|refine QV (rr_eql (b := true) rfl rfl (decide_eq_true rfl)) ?_|refine QV (rr_eql (b := false) rfl rfl (decide_eq_false (by decide))) ?_|refine QV (rr_loadB (i := 3) TyC.ty rfl rfl rfl) ?_|refine QV (rr_loadB (i := 0) TyC.ty rfl rfl rfl) ?_|refine QV QA ?_|refine QV QeT ?_|refine QV QeF ?_|refine QV QnT ?_|refine QV QnF ?_|refine QV QS ?_|refine QV QgT ?_|refine QV QgF ?_))
      refine TL_gcall (he2 EntersC.en rfl rfl rfl) (fun w hm => hsm _ w hm.below (sp_of (hm.get (i := 1) rfl) (hm.get (i := 2) rfl))) rfl rfl rfl rfl rfl ?_
      intro _ _
      conv=>arg 8;simp only[zA,zB,zC,zD,zE,zF,zG,zH,zI,rowS,ret,id_eq]
      repeat(first|refine QV QP ?_|refine QZ ?_|refine qcT rfl ?_|refine qcF rfl ?_|refine qs rfl rfl rfl rfl rfl rfl ?_|((try refine qg rfl rfl rfl ?_);first|refine QV QP ?_|refine QV QA ?_|refine QV QeT ?_|refine QV QeF ?_|refine QV QnT ?_|refine QV QnF ?_|refine QV QS ?_|refine QV QgT ?_|refine QV QgF ?_))
      exact E_ret1e rfl rfl rfl
    · conv=>arg 8;simp only[zA,zB,zC,zD,zE,zF,zG,zH,zI,rowS,ret,id_eq, redSp]
      conv => arg 7; simp only [redSp]
      refine TL_know (i := 1) rfl (fun w h => wds_form w h) fun hf => ?_
      obtain ⟨b4, c4, rfl⟩ := hf
      refine TL_know (i := 2) rfl (fun w h => rls_form w h) fun hf => ?_
      obtain ⟨b5, c5, rfl⟩ := hf
      repeat(first|refine QV QP ?_|refine QZ ?_|refine qcT rfl ?_|refine qcF rfl ?_|refine qs rfl rfl rfl rfl rfl rfl ?_|((try refine qg rfl rfl rfl ?_);first|refine QV QP ?_|refine QV QA ?_|refine QV QeT ?_|refine QV QeF ?_|refine QV QnT ?_|refine QV QnF ?_|refine QV QS ?_|refine QV QgT ?_|refine QV QgF ?_))
      refine TL_new rfl fun g7 => ?_
      conv=>arg 8;simp only[zA,zB,zC,zD,zE,zF,zG,zH,zI,rowS,ret,id_eq]
      repeat(first|refine QV QP ?_|refine QZ ?_|refine qcT rfl ?_|refine qcF rfl ?_|refine qs rfl rfl rfl rfl rfl rfl ?_|((try refine qg rfl rfl rfl ?_);first|refine QV QP ?_|refine QV QA ?_|refine QV QeT ?_|refine QV QeF ?_|refine QV QnT ?_|refine QV QnF ?_|refine QV QS ?_|refine QV QgT ?_|refine QV QgF ?_))
      refine TL_storeB (i := 3) (cs' := #[.slice b4 ([] : List Wd).length c4, .slice b5 ([] : List Rl).length c5]) rfl rfl rfl rfl rfl rfl ?_
      conv=>arg 8;simp only[zA,zB,zC,zD,zE,zF,zG,zH,zI,rowS,ret,id_eq]
      repeat(first|refine QV QP ?_|refine QZ ?_|refine qcT rfl ?_|refine qcF rfl ?_|refine qs rfl rfl rfl rfl rfl rfl ?_|((try refine qg rfl rfl rfl ?_);first|refine QV QP ?_|refine QV (rr_eql (b := true) rfl rfl (decide_eq_true rfl)) ?_|refine QV (rr_load1 (v := .slice b1 s.words.length c1) TyC.ty rfl (at_blk (i := 0) rfl rfl)) ?_|refine QV QA ?_|refine QV QeT ?_|refine QV QeF ?_|refine QV QnT ?_|refine QV QnF ?_|refine QV QS ?_|refine QV QgT ?_|refine QV QgF ?_))
      refine TL_call (he2 EntersC.en rfl rfl rfl) (fun w hm => hlo w (hT.up hm) hm.below) rfl rfl rfl ?_
      intro _ _
      conv=>arg 8;simp only[zA,zB,zC,zD,zE,zF,zG,zH,zI,rowS,ret,id_eq]
      by_cases c3 : ∃ w ∈ s.words, 300 < (txtX w.2).length
      · have hany : (s.words.any fun x => decide (300 < (txtX x.2).length)) = true := by
          obtain ⟨u, hu, hl⟩ := c3
          exact List.any_eq_true.2 ⟨u, hu, decide_eq_true hl⟩
        rw [hany]
        repeat(first|refine QV QP ?_|refine QZ ?_|refine qcT rfl ?_|refine qcF rfl ?_|refine qs rfl rfl rfl rfl rfl rfl ?_|((try refine qg rfl rfl rfl ?_);first|refine QV QP ?_|refine QV QA ?_|refine QV QeT ?_|refine QV QeF ?_|refine QV QnT ?_|refine QV QnF ?_|refine QV QS ?_|refine QV QgT ?_|refine QV QgF ?_))
        exact E_ret1e rfl rfl rfl
      · have hany : (s.words.any fun x => decide (300 < (txtX x.2).length)) = false := by
          rw [List.any_eq_false]
          intro u hu hl
          exact c3 ⟨u, hu, by simpa using hl⟩
        have hlt := hlong.resolve_left c3
        rw [hany]
        repeat(first|refine QV QP ?_|refine QZ ?_|refine qcT rfl ?_|refine qcF rfl ?_|refine qs rfl rfl rfl rfl rfl rfl ?_|((try refine qg rfl rfl rfl ?_);first|refine QV QP ?_|refine QV QS ?_|refine QV QA ?_|refine QV QeT ?_|refine QV QeF ?_|refine QV QnT ?_|refine QV QnF ?_|refine QV QgT ?_|refine QV QgF ?_))
        exact E_ret1e rfl rfl rfl
  · rw [if_neg c0]
    repeat(first|refine QV QP ?_|refine QZ ?_|refine qcT rfl ?_|refine qcF rfl ?_|refine qs rfl rfl rfl rfl rfl rfl ?_|((try refine qg rfl rfl rfl ?_);first|refine QV QP ?_|refine QV (rr_neq (b := true) rfl rfl (decide_eq_true c0)) ?_|refine QV (rr_streq (b := true) rfl rfl rfl) ?_|refine QV (rr_loadB (i := 0) TyC.ty rfl rfl rfl) ?_|refine QV QA ?_|refine QV QeT ?_|refine QV QeF ?_|refine QV QnT ?_|refine QV QnF ?_|refine QV QS ?_|refine QV QgT ?_|refine QV QgF ?_))
    refine TL_gcall (he1 EntersC.en rfl rfl) (fun w hm => hck _ hm.below) rfl rfl rfl rfl rfl ?_
    intro _ _
    conv=>arg 8;simp only[zA,zB,zC,zD,zE,zF,zG,zH,zI,rowS,ret,id_eq]
    repeat(first|refine QV QP ?_|refine QZ ?_|refine qcT rfl ?_|refine qcF rfl ?_|refine qs rfl rfl rfl rfl rfl rfl ?_|((try refine qg rfl rfl rfl ?_);first|refine QV QP ?_|refine QV (rr_eql (b := true) rfl rfl (decide_eq_true rfl)) ?_|refine QV QA ?_|refine QV QeT ?_|refine QV QeF ?_|refine QV QnT ?_|refine QV QnF ?_|refine QV QS ?_|refine QV QgT ?_|refine QV QgF ?_))
    exact E_ret1e rfl rfl rfl
end Go.Proofs.YtakiohldgcifeaaDoor.specBack


