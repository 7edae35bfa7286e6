/- Part 4 of what LrAbove needs: ItN, StrK, MapN, ClassL, RexL, RexS, PlN, ClassB, PlR, ItO, Els, Fam, TreeS, FactsT, Look, CountA, CountC, CountD, LlM, LrA, ItD, SortJ, ItE, ItF, ItG. -/
import Derived.Test.YtdbghmgajmlkmaaMgC
import Derived.WalkKit
import Derived.WalkSpells
import Derived.WalkLawsBesides
import Derived.Deep.RegionLaw
import Derived.Deep.AppendLies
import Derived.Deep.QuietTactic
import Derived.BigQuiet
import Derived.Deep.DeepCutAuto
import Derived.Lib.Hide
import Derived.Test.YtdbghmgajmlkmaaRows
import Derived.ProofKit
import Derived.OpenShut
import Derived.ShutString
import Derived.SizedLaws
import Derived.JoinedCond
import Derived.Deep.CondSized
import Derived.Deep.Quiet
import Derived.StillTail
import Derived.Deep.LoopGhost
import Derived.Laws.BitsLemmas
import Derived.Laws.BytesString
import Derived.Test.YtdbghmgajmlkmaaProg
import Derived.Laws.StructEq
import Derived.Laws.MakeOwn
import Derived.Laws.AppendOwn
import Derived.Laws.Entries
import Derived.Maps.OwnSet
import Derived.DeepKeys4
import Derived.WideKeyEntry
import Derived.Sort.Grow
import Derived.Lib.Walk
import Derived.Deep.RegionWith
import Derived.Deep.RegionHeld
import Derived.StringKeys
import Derived.Laws.BitsAllLaws
import Derived.Shelf.SlGeneric
import Derived.Shelf.SlSortCmp.NoneTotal
import Derived.Ground.SlsfProg
/- ItN -/
namespace Go.Proofs.Ytdbghmgajmlkmaa.eng
open Go.RowKit kit mix gramL treeL factsL itemL
theorem conv_it {x : Int} (h0 : 0 ≤ x) (h1 : x < 256) : IntKind.u8.wrap x = (((UInt8.ofNat x.toNat).toNat : Nat) : Int) := by
  obtain ⟨n, rfl⟩ := Int.eq_ofNat_of_zero_le h0
  rw [Int.toNat_natCast, IntKind.wrap_u8]; simp
theorem nameI_len (l : List itemL.Item) : (nameI l).length = 3 * l.length := by
  induction l with
  | nil => rfl
  | cons x r ih =>
    have : nameI (x :: r) = [UInt8.ofNat x.1.toNat, UInt8.ofNat x.2.1.toNat, UInt8.ofNat x.2.2.toNat] ++ nameI r := rfl
    rw [this, List.length_append, ih, List.length_cons]
    show 3 + 3 * r.length = 3 * (r.length + 1)
    omega
theorem nameI_take {l : List itemL.Item} {k : Nat} (h : k < l.length) : nameI (l.take (k + 1)) = nameI (l.take k) ++ [UInt8.ofNat l[k].1.toNat, UInt8.ofNat l[k].2.1.toNat, UInt8.ofNat l[k].2.2.toNat] := by
  unfold nameI
  rw [List.take_succ_eq_append_getElem h, List.flatMap_append]
  rfl
set_option maxHeartbeats 4000000 in
theorem name_calls (vl : Value) (l : List itemL.Item) (w : World) (hl : Sl w vl l.length (l.flatMap itC)) (hb : ∀ it ∈ l, 0 ≤ it.1 ∧ it.1 < 256 ∧ 0 ≤ it.2.1 ∧ it.2.1 < 256 ∧ 0 ≤ it.2.2 ∧ it.2.2 < 256) (hn : l.length ≤ 20000) :
    Calls Try.prog 36 #[vl] w (Meets (ret (str (nameI l))) w) := by
  obtain ⟨bl, cl, rfl, hc1, hc2, hrl⟩ := hl
  unfold maxLen at hc2
  refine enter (args := [.slice bl l.length cl]) (n := 27) Try.func36 rfl rfl rfl ?_
  repeat(first|refine QV QP ?_|refine QZ ?_|refine qcT rfl ?_|refine qcF rfl ?_|refine E_blockX ?_|refine E_blockO rfl ?_|refine QV QL ?_|refine QV QA ?_|refine QV QlT ?_|refine QV QlF ?_|refine QV QaA ?_)
  refine T_nil 5 1 ?_
  conv => arg 7; simp only [zA, zB, zC, zD, zE, zF, zG, zH, zI, rowS, ret, id_eq]
  refine T_loop (ι := Nat × Value) (fun (k, _) => k ≤ l.length) (fun (k, v) => [(3, v), (6, .slice bl l.length cl), (7, .int .i64 l.length), (8, .int .i64 (k : Int))])
    (fun (k, v) => [rowO 5 1 v (nameI (l.take k)).length ((nameI (l.take k)).map u8v)]) (fun (k, _) => l.length - k) (0, .slice none 0 0) (Nat.zero_le _) (by repeat' (first | exact True.intro | refine And.intro rfl ?_)) rfl ?_
  rintro ⟨k, v⟩ i1
  dsimp only at i1 ⊢
  by_cases c1 : k < l.length
  · obtain ⟨b, off, rfl, hrd⟩ := hrl (by omega)
    have hat := fun L => at_el (L := L) itC_len hrd c1
    have hatA : ∀ (L : List Own) (j : Nat) (u : Value), (itC l[k])[j]? = some u → At (w : Base) L ⟨b, off + k * 3 + j, none⟩ u := hat
    clear hat hrl hrd
    obtain ⟨b1, b2, b3, b4, b5, b6⟩ := hb l[k] (List.getElem_mem c1)
    have hnx := nameI_take c1
    have hln : (nameI (l.take k)).length ≤ 60000 := by rw [nameI_len, List.length_take]; omega
    generalize l[k] = x at *
    obtain ⟨p, d, lo⟩ := x
    dsimp only at b1 b2 b3 b4 b5 b6 hnx
    have e1 := conv_it b1 b2
    have e2 := conv_it b3 b4
    have e3 := conv_it b5 b6
    generalize UInt8.ofNat p.toNat = y1 at *
    generalize UInt8.ofNat d.toNat = y2 at *
    generalize UInt8.ofNat lo.toNat = y3 at *
    generalize hN : nameI (l.take k) = N at *
    repeat(first|refine QV QP ?_|refine QZ ?_|refine qcT rfl ?_|refine qcF rfl ?_|refine E_blockX ?_|refine E_blockO rfl ?_|refine QV (rr_idxc Und.eq TyC.ty rfl rfl c1) ?_|refine QV (rr_loadN (cs := itC (p, d, lo)) TyC.ty rfl rfl (hatA _)) ?_|refine QV QL ?_|refine QV QA ?_|refine QV QlT ?_|refine QV QlF ?_|refine QV QaA ?_)
    refine TL_new rfl fun g5 => ?_
    conv=>arg 8;simp only[zA,zB,zC,zD,zE,zF,zG,zH,zI,rowS,ret,id_eq]
    refine TL_storeB (i := 1) (cs' := (itC (p, d, lo)).toArray) rfl rfl rfl rfl rfl rfl ?_
    conv=>arg 8;simp only[zA,zB,zC,zD,zE,zF,zG,zH,zI,rowS,ret,id_eq]
    repeat(first|refine QV QP ?_|refine QZ ?_|refine qcT rfl ?_|refine qcF rfl ?_|refine E_blockX ?_|refine E_blockO rfl ?_|refine QV (rr_load1 (v := .int .i64 p) TyC.ty rfl (at_blk (i := 1) rfl rfl)) ?_|refine QV (rr_load1 (v := .int .i64 d) TyC.ty rfl (at_blk (i := 1) rfl rfl)) ?_|refine QV (rr_load1 (v := .int .i64 lo) TyC.ty rfl (at_blk (i := 1) rfl rfl)) ?_|refine QV (rr_conv Und.eq Und.eq rfl e1) ?_|refine QV (rr_conv Und.eq Und.eq rfl e2) ?_|refine QV (rr_conv Und.eq Und.eq rfl e3) ?_|refine QV QL ?_|refine QV QA ?_|refine QV QlT ?_|refine QV QlF ?_|refine QV QaA ?_)
    refine TL_litV [u8v y1, u8v y2, u8v y3] rfl rfl rfl (by intro v hv; simp at hv; rcases hv with rfl | rfl | rfl <;> rfl) rfl rfl fun g22 => ?_
    conv=>arg 8;simp only[zA,zB,zC,zD,zE,zF,zG,zH,zI,rowS,ret,id_eq]
    refine TL_appSl (i := 0) (e := 5) (size := 1) (bytes := 1) (m := N.length) (xs := N.map u8v) (k := 3) (ys := [u8v y1, u8v y2, u8v y3]) rfl (sl_blk (i := 2) rfl (fun j u h => by simpa using h) (Nat.le_refl 3) (by decide)) rfl rfl rfl (by intro u hu; simp at hu; rcases hu with rfl | rfl | rfl <;> rfl) (by omega) (by omega) rfl fun v' => ?_
    conv=>arg 8;simp only[zA,zB,zC,zD,zE,zF,zG,zH,zI,rowS,ret,id_eq]
    repeat(first|refine QV QP ?_|refine QZ ?_|refine qcT rfl ?_|refine qcF rfl ?_|refine E_blockX ?_|refine E_blockO rfl ?_|refine QV QL ?_|refine QV QA ?_|refine QV QlT ?_|refine QV QlF ?_|refine QV QaA ?_)
    refine E_pick [0] (by decide) rfl ?_
    exact E_round (k + 1, v') (by show k + 1 ≤ l.length; omega) (by show l.length - (k + 1) < l.length - k; omega) (by repeat' (first | exact True.intro | refine And.intro rfl ?_)) (by dsimp only; rw [hnx, List.length_append, List.map_append]; rfl)
  · obtain rfl : k = l.length := by omega
    rw [List.take_length]
    repeat(first|refine QV QP ?_|refine QZ ?_|refine qcT rfl ?_|refine qcF rfl ?_|refine E_blockX ?_|refine E_blockO rfl ?_|refine QV (rr_string Und.eq Und.eq Und.eq rfl rfl (sl_row (i := 0) rfl)) ?_|refine QV QL ?_|refine QV QA ?_|refine QV QlT ?_|refine QV QlF ?_|refine QV QaA ?_)
    exact E_ret1 rfl rfl fun w hm => hm.ret
set_option maxHeartbeats 4000000 in
theorem symbols_calls (T N : Nat) (hT : T ≤ 1000) (hN : N ≤ 1000) (vp : Value) (w : World) :
    Calls Try.prog 38 #[graV (T : Int) (N : Int) vp] w (Meets (rowS 55 2 (symsI T N).length ((symsI T N).flatMap symC) id) w) := by
  have hb1 := fun (q : Int) => build_sym 1 q
  have hb2 := fun (q : Int) => build_sym 2 q
  refine enter (args := [graV (T : Int) (N : Int) vp]) (n := 29) Try.func38 rfl rfl rfl ?_
  refine T_seq (T_region (TL_box rfl rfl rfl fun g1 => ?_))
  conv=>arg 8;simp only[zA,zB,zC,zD,zE,zF,zG,zH,zI,rowS,ret,id_eq]
  repeat(first|refine QV QP ?_|refine QZ ?_|refine qcT rfl ?_|refine qcF rfl ?_|refine E_blockX ?_|refine E_blockO rfl ?_|refine QV (rr_load1 (v := .int .i64 (T : Int)) TyC.ty rfl (at_blk (i := 0) rfl rfl)) ?_|refine QV QA ?_|refine QV QlT ?_|refine QV QlF ?_|refine QV QaA ?_)
  refine T_nil 55 2 ?_
  conv => arg 7; simp only [zA, zB, zC, zD, zE, zF, zG, zH, zI, rowS, ret, id_eq]
  refine T_loop (ι := Nat × Value) (fun (k, _) => k ≤ T) (fun (k, v) => [(1, .pointer (some ⟨g1, 0, none⟩)), (3, v), (7, .int .i64 (T : Int)), (8, .int .i64 (k : Int))])
    (fun (k, v) => [blkO g1 (graV (T : Int) (N : Int) vp).cells 24, rowO 55 2 v ((List.range k).map (fun n : Nat => ((1 : Int), (n : Int)))).length (((List.range k).map (fun n : Nat => ((1 : Int), (n : Int)))).flatMap symC)]) (fun (k, _) => T - k) (0, .slice none 0 0) (Nat.zero_le _) (by repeat' (first | exact True.intro | refine And.intro rfl ?_)) rfl ?_
  rintro ⟨k, v⟩ i1
  dsimp only at i1 ⊢
  by_cases c1 : k < T
  · have hnx : (List.range (k + 1)).map (fun n : Nat => ((1 : Int), (n : Int))) = (List.range k).map (fun n : Nat => ((1 : Int), (n : Int))) ++ [((1 : Int), (k : Int))] := by rw [List.range_succ, List.map_append]; rfl
    have hln : ((List.range k).map (fun n : Nat => ((1 : Int), (n : Int)))).length = k := by rw [List.length_map, List.length_range]
    generalize hA : (List.range k).map (fun n : Nat => ((1 : Int), (n : Int))) = A at *
    repeat(first|refine QV QP ?_|refine QZ ?_|refine qcT rfl ?_|refine qcF rfl ?_|refine E_blockX ?_|refine E_blockO rfl ?_|refine QV (rr_build rfl (hb1 _)) ?_|refine QV QA ?_|refine QV QlT ?_|refine QV QlF ?_|refine QV QaA ?_)
    refine TL_pushN (i := 1) rfl rfl rfl rfl rfl rfl rfl (fun z h => by cases h; rfl) (by omega) (by omega) rfl fun z v' => ?_
    conv=>arg 8;simp only[zA,zB,zC,zD,zE,zF,zG,zH,zI,rowS,ret,id_eq]
    repeat(first|refine QV QP ?_|refine QZ ?_|refine qcT rfl ?_|refine qcF rfl ?_|refine E_blockX ?_|refine E_blockO rfl ?_|refine QV QA ?_|refine QV QlT ?_|refine QV QlF ?_|refine QV QaA ?_)
    exact E_round (k + 1, v') (by show k + 1 ≤ T; omega) (by show T - (k + 1) < T - k; omega) (by repeat' (first | exact True.intro | refine And.intro rfl ?_)) (by dsimp only; rw [hnx, List.length_append, List.flatMap_append]; rfl)
  obtain rfl : k = T := by omega
  have hln : ((List.range k).map (fun n : Nat => ((1 : Int), (n : Int)))).length = k := by rw [List.length_map, List.length_range]
  have hS : symsI k N = (List.range k).map (fun n : Nat => ((1 : Int), (n : Int))) ++ (List.range N).map (fun n : Nat => ((2 : Int), (n : Int))) := rfl
  generalize symsI k N = S at *
  generalize hA : (List.range k).map (fun n : Nat => ((1 : Int), (n : Int))) = A at *
  repeat(first|refine QV QP ?_|refine QZ ?_|refine qcT rfl ?_|refine qcF rfl ?_|refine E_blockX ?_|refine E_blockO rfl ?_|refine QV (rr_load1 (v := .int .i64 (N : Int)) TyC.ty rfl (at_blk (i := 0) rfl rfl)) ?_|refine QV QA ?_|refine QV QlT ?_|refine QV QlF ?_|refine QV QaA ?_)
  refine T_loop (ι := Nat × Value) (fun (j, _) => j ≤ N) (fun (j, v) => [(3, v), (18, .int .i64 (N : Int)), (19, .int .i64 (j : Int))])
    (fun (j, v) => [blkO g1 (graV (k : Int) (N : Int) vp).cells 24, rowO 55 2 v (A ++ (List.range j).map (fun n : Nat => ((2 : Int), (n : Int)))).length ((A ++ (List.range j).map (fun n : Nat => ((2 : Int), (n : Int)))).flatMap symC)]) (fun (j, _) => N - j) (0, v) (Nat.zero_le _) (by repeat' (first | exact True.intro | refine And.intro rfl ?_)) (by simp only [List.range_zero, List.map_nil, List.append_nil]) ?_
  rintro ⟨j, v⟩ j1
  dsimp only at j1 ⊢
  by_cases c2 : j < N
  · have hnx : A ++ (List.range (j + 1)).map (fun n : Nat => ((2 : Int), (n : Int))) = (A ++ (List.range j).map (fun n : Nat => ((2 : Int), (n : Int)))) ++ [((2 : Int), (j : Int))] := by rw [List.range_succ, List.map_append, List.append_assoc]; rfl
    have hln2 : (A ++ (List.range j).map (fun n : Nat => ((2 : Int), (n : Int)))).length ≤ 2000 := by rw [List.length_append, List.length_map, List.length_range]; omega
    generalize hD : A ++ (List.range j).map (fun n : Nat => ((2 : Int), (n : Int))) = D at *
    repeat(first|refine QV QP ?_|refine QZ ?_|refine qcT rfl ?_|refine qcF rfl ?_|refine E_blockX ?_|refine E_blockO rfl ?_|refine QV (rr_build rfl (hb2 _)) ?_|refine QV QA ?_|refine QV QlT ?_|refine QV QlF ?_|refine QV QaA ?_)
    refine TL_pushN (i := 1) rfl rfl rfl rfl rfl rfl rfl (fun z h => by cases h; rfl) (by omega) (by omega) rfl fun z v' => ?_
    conv=>arg 8;simp only[zA,zB,zC,zD,zE,zF,zG,zH,zI,rowS,ret,id_eq]
    repeat(first|refine QV QP ?_|refine QZ ?_|refine qcT rfl ?_|refine qcF rfl ?_|refine E_blockX ?_|refine E_blockO rfl ?_|refine QV QA ?_|refine QV QlT ?_|refine QV QlF ?_|refine QV QaA ?_)
    exact E_round (j + 1, v') (by show j + 1 ≤ N; omega) (by show N - (j + 1) < N - j; omega) (by repeat' (first | exact True.intro | refine And.intro rfl ?_)) (by dsimp only; rw [hnx, List.length_append, List.flatMap_append]; rfl)
  obtain rfl : j = N := by omega
  rw [← hS]
  repeat(first|refine QV QP ?_|refine QZ ?_|refine qcT rfl ?_|refine qcF rfl ?_|refine E_blockX ?_|refine E_blockO rfl ?_|refine QV QA ?_|refine QV QlT ?_|refine QV QlF ?_|refine QV QaA ?_)
  exact E_ret1 rfl rfl fun w hm => hm.meets (S := rowS 55 2 S.length (S.flatMap symC) id) v trivial [1] (by decide) rfl
end Go.Proofs.Ytdbghmgajmlkmaa.eng

/- StrK -/
namespace Go.Proofs.Ytdbghmgajmlkmaa.eng
open Go.RowKit kit mix
theorem str_inj {x y : List UInt8} (h : str x = str y) : x = y := by
  unfold str at h
  simpa using h
def strK : KeyT Try.prog 9 (List UInt8) where
  kv := str
  ok l := l.length ≤ 9223372036854775807
  law := Go.WideMaps.string_law Try.underlying9
  key l h := ⟨_, Go.WideMaps.keyOf_string_mk Try.underlying9 (by unfold maxLen; simpa [ByteArray.size] using h)⟩
  inj x y h := str_inj h
end Go.Proofs.Ytdbghmgajmlkmaa.eng

/- MapN -/
namespace Go.Proofs.Ytdbghmgajmlkmaa.eng
open Go.RowKit kit mix smallL
def mapAt {κ : Type} [DecidableEq κ] (D : List κ) (x : κ) : Option Value := if x ∈ D then some (.int .i64 (idx D x : Int)) else none
theorem mapAt_add {κ : Type} [DecidableEq κ] {D : List κ} {x : κ} (hn : x ∉ D) : (fun y => if y = x then some (.int .i64 (D.length : Int)) else mapAt D y) = mapAt (D ++ [x]) := by
  funext y
  unfold mapAt
  by_cases c : y = x
  · subst c
    rw [if_pos rfl, if_pos (by simp)]
    have := idx_more (D := D) (k := y)
    unfold more at this
    rw [if_neg hn, if_neg hn] at this
    rw [this]
  · rw [if_neg c]
    by_cases c2 : y ∈ D
    · rw [if_pos c2, if_pos (List.mem_append_left _ c2), idx_pre c2]
    · rw [if_neg c2, if_neg (by simp [c, c2])]
section
variable {P : Program} {k : TypeId} {κ : Type} {K : KeyT P k κ}
variable {W : Base} {fr : Fr} {L : List Own} {Q : Exit → Act → World → Prop} {ops : Array Oper} {rest : List Oper} {n d : Nat} {dst : Option Tmp} {ty : TypeId} {pos : String} {after : Array Edge} {guard : Option (Nat × Bool)} {i g c : Nat} {t e : TypeId} {D : List κ} {x : κ} {z : Value} {xm xk xv : Operand} [DecidableEq κ]
theorem rr_lookNumS (ht : P.underlying t = some (.map k e)) (hz : ∀ w, (zeroValue e).run P w = .ok z w) (hi : L[i]? = some (mapO K g (mapAt D) c)) (hm : ev fr xm = some (.map (some g))) (hk : ev fr xk = some (K.kv x)) (hx : K.ok x) (hn : x ∈ D) : RR P n W ⟨dst, .lookup t xm xk true, ty, pos, after, guard⟩ fr L (.tuple #[.int .i64 (idx D x : Int), .bool true]) := by
  have := rr_lookOk (n := n) (W := W) (dst := dst) (ty := ty) (pos := pos) (after := after) (guard := guard) K ht hz hi hm hk hx
  rw [show mapAt D x = some (.int .i64 (idx D x : Int)) from if_pos hn] at this
  exact this
theorem rr_lookNumN (ht : P.underlying t = some (.map k e)) (hz : ∀ w, (zeroValue e).run P w = .ok z w) (hi : L[i]? = some (mapO K g (mapAt D) c)) (hm : ev fr xm = some (.map (some g))) (hk : ev fr xk = some (K.kv x)) (hx : K.ok x) (hn : x ∉ D) : RR P n W ⟨dst, .lookup t xm xk true, ty, pos, after, guard⟩ fr L (.tuple #[z, .bool false]) := by
  have := rr_lookOk (n := n) (W := W) (dst := dst) (ty := ty) (pos := pos) (after := after) (guard := guard) K ht hz hi hm hk hx
  rw [show mapAt D x = none from if_neg hn] at this
  exact this
theorem TL_mapNew (hn : Nat.blt d n = true) (h : ∀ g, TL P n W ops Q rest ((d, .map (some g)) :: fr) (L ++ [mapO K g (mapAt []) 0])) :
    TL P n W ops Q (⟨some d, .makeMap t none, ty, pos, after, none⟩ :: rest) fr L := by
  refine TL_map K hn fun g => ?_
  have e : (fun (_ : κ) => (none : Option Value)) = mapAt [] := by funext y; unfold mapAt; rw [if_neg (by simp)]
  rw [e]; exact h g
end
end Go.Proofs.Ytdbghmgajmlkmaa.eng

/- ClassL -/
namespace Go.Proofs.Ytdbghmgajmlkmaa.classL
/-- a word of 64 bits as the model's number -/
def n64 (x : BitVec 64) : Int := x.toNat
theorem wrap64 (x : BitVec 64) : IntKind.u64.wrap (n64 x) = n64 x := by
  have := x.isLt
  unfold n64
  rw [IntKind.wrap_u64]; omega
theorem ofInt64 (x : BitVec 64) : BitVec.ofInt 64 (n64 x) = x := by
  apply BitVec.eq_of_toNat_eq; simp [n64]
theorem and64 (x y : BitVec 64) : bits .and .u64 (n64 x) (n64 y) = n64 (x &&& y) := by
  unfold bits; simp only [IntKind.bits, ofInt64]; exact wrap64 _
theorem or64 (x y : BitVec 64) : bits .or .u64 (n64 x) (n64 y) = n64 (x ||| y) := by
  unfold bits; simp only [IntKind.bits, ofInt64]; exact wrap64 _
theorem xor64 (x y : BitVec 64) : bits .xor .u64 (n64 x) (n64 y) = n64 (x ^^^ y) := by
  unfold bits; simp only [IntKind.bits, ofInt64]; exact wrap64 _
theorem not64 (x : BitVec 64) : bits .xor .u64 IntKind.u64.max (n64 x) = n64 (~~~ x) := by
  have h := xor64 (BitVec.allOnes 64) x
  rw [BitVec.allOnes_xor] at h
  rw [← h]; rfl
/-- a class of bytes -/
structure C4 where
  a : BitVec 64
  b : BitVec 64
  c : BitVec 64
  d : BitVec 64
  deriving DecidableEq
def C4.zero : C4 := ⟨0, 0, 0, 0⟩
def clsL (x : C4) : List Value := [.int .u64 (n64 x.a), .int .u64 (n64 x.b), .int .u64 (n64 x.c), .int .u64 (n64 x.d)]
end Go.Proofs.Ytdbghmgajmlkmaa.classL

/- RexL -/
namespace Go.Proofs.Ytdbghmgajmlkmaa.rexL
open classL
inductive Rx where
  | mk (kind : Int) (c : C4) (kids : List Rx)
def Rx.kind : Rx → Int | .mk k _ _ => k
def Rx.cls : Rx → C4 | .mk _ c _ => c
def Rx.kids : Rx → List Rx | .mk _ _ l => l
/-! ### expressions that are as they should be -/
inductive Re where
  | none
  | empty
  | byte (c : C4)
  | cat (a b : Re)
  | alt (a b : Re)
  | star (a : Re)
def Re.size : Re → Nat
  | .cat a b => a.size + b.size + 1
  | .alt a b => a.size + b.size + 1
  | .star a => a.size + 1
  | _ => 1
def Re.kind : Re → Int
  | .none => 1
  | .empty => 2
  | .byte _ => 3
  | .cat _ _ => 4
  | .alt _ _ => 5
  | .star _ => 6
def Re.cls : Re → C4
  | .byte c => c
  | _ => C4.zero
def Re.kids : Re → List Re
  | .cat a b => [a, b]
  | .alt a b => [a, b]
  | .star a => [a]
  | _ => []
end Go.Proofs.Ytdbghmgajmlkmaa.rexL

/- RexS -/
namespace Go.Proofs.Ytdbghmgajmlkmaa.eng
open Go.RowKit kit mix classL rexL
/-- an expression that can be read, its blocks being in F -/
inductive RexIs (F : Nat → Prop) (w : World) : List Value → Rx → Prop
  | mk {k : Int} {c : C4} {kids : List Rx} {base : Option Addr} {cap : Nat} (css : List (List Value)) : kit.okI64 k → kids.length ≤ cap → cap ≤ maxLen → css.length = kids.length →
    (∀ i (h : i < kids.length) (h' : i < css.length), RexIs F w css[i] kids[i]) → (0 < kids.length → ∃ b off, base = some ⟨b, off, none⟩ ∧ F b ∧ ∀ i (_ : i < kids.length) (h' : i < css.length), Rd w b (off + i * 6) css[i]) →
    RexIs F w (.int .i64 k :: (clsL c ++ [.slice base kids.length cap])) (.mk k c kids)
theorem RexIs.len6 {F : Nat → Prop} {w : World} {cs : List Value} {t : Rx} (h : RexIs F w cs t) : cs.length = 6 := by
  cases h; rfl
theorem RexIs.stayed {F : Nat → Prop} {w w' : World} {cs : List Value} {t : Rx} (h : RexIs F w cs t) (hk : ∀ k, F k → w'.heap[k]? = w.heap[k]?) : RexIs F w' cs t := by
  induction h with
  | mk css h2 h3 h4 h5 h6 h7 ih =>
    refine .mk css h2 h3 h4 h5 ih fun hl => ?_
    obtain ⟨b, off, e, hF, hr⟩ := h7 hl
    exact ⟨b, off, e, hF, fun i hi hi' => rd_stay (hr i hi hi') (hk b hF)⟩
theorem RexIs.mono {F F' : Nat → Prop} {w : World} {cs : List Value} {t : Rx} (h : RexIs F w cs t) (hk : ∀ k, F k → F' k) : RexIs F' w cs t := by
  induction h with
  | mk css h2 h3 h4 h5 h6 h7 ih =>
    refine .mk css h2 h3 h4 h5 ih fun hl => ?_
    obtain ⟨b, off, e, hF, hr⟩ := h7 hl
    exact ⟨b, off, e, hk b hF, hr⟩
def rexS : Shp Rx := ⟨6, RexIs, fun h => h.len6, fun h hk => h.stayed hk, fun h hk => h.mono hk⟩
def rexC (k : Int) (c : C4) (v : Value) : List Value := .int .i64 k :: (clsL c ++ [v])
def rexV (k : Int) (c : C4) (v : Value) : Value := .agg (rexC k c v).toArray
theorem rex_iff {F : Nat → Prop} {w : World} {cs : List Value} {k : Int} {c : C4} {kids : List Rx} : RexIs F w cs (.mk k c kids) ↔ ∃ v, cs = rexC k c v ∧ kit.okI64 k ∧ SlF rexS F w v kids := by
  constructor
  · intro h
    cases h with
    | mk css h2 h3 h4 h5 h6 h7 =>
      refine ⟨_, rfl, h2, _, _, rfl, h3, h4, fun hl => ?_⟩
      obtain ⟨b, off, e, hF, hr⟩ := h7 hl
      exact ⟨b, off, e, hF, fun i hi => ⟨css[i]'(by omega), h6 i hi (by omega), hr i hi (by omega)⟩⟩
  · rintro ⟨v, rfl, h2, base, cap, rfl, h3, h4, h5⟩
    by_cases hl : 0 < kids.length
    · obtain ⟨b, off, e, hF, hr⟩ := h5 hl
      have hlen : (List.ofFn fun i : Fin kids.length => Classical.choose (hr i i.2)).length = kids.length := by simp
      refine .mk (List.ofFn fun i : Fin kids.length => Classical.choose (hr i i.2)) h2 h3 h4 hlen (fun i hi hi' => ?_) fun _ => ⟨b, off, e, hF, fun i hi hi' => ?_⟩
      · rw [List.getElem_ofFn]; exact (Classical.choose_spec (hr i hi)).1
      · rw [List.getElem_ofFn]; exact (Classical.choose_spec (hr i hi)).2
    · have : kids = [] := List.eq_nil_of_length_eq_zero (by omega)
      subst this
      exact .mk [] h2 h3 h4 rfl (fun i hi => absurd hi (by simp)) fun h => absurd h (by simp)
/-- an expression that is a value -/
def RexR (F : Nat → Prop) (w : World) (v : Value) (r : Rx) : Prop := ∃ vk, v = rexV r.kind r.cls vk ∧ kit.okI64 r.kind ∧ SlF rexS F w vk r.kids
theorem RexR.stay {F : Nat → Prop} {w w' : World} {v : Value} {r : Rx} (h : RexR F w v r) (hk : ∀ k, F k → w'.heap[k]? = w.heap[k]?) : RexR F w' v r :=
  let ⟨vk, h1, h2, h3⟩ := h; ⟨vk, h1, h2, h3.stay hk⟩
theorem RexR.mono {F F' : Nat → Prop} {w : World} {v : Value} {r : Rx} (h : RexR F w v r) (hk : ∀ k, F k → F' k) : RexR F' w v r :=
  let ⟨vk, h1, h2, h3⟩ := h; ⟨vk, h1, h2, h3.mono hk⟩
/-- what is there at all -/
def Low (w : World) : Nat → Prop := fun k => k < w.heap.size
theorem RexR.gr {w w' : World} {v : Value} {r : Rx} (h : RexR (Low w) w v r) (hg : Gr w w') : RexR (Low w') w' v r :=
  (h.stay fun k hk => hg.block k hk).mono fun k hk => Nat.lt_of_lt_of_le hk hg.size
theorem RexR.is {F : Nat → Prop} {w : World} {v : Value} {r : Rx} (h : RexR F w v r) : ∃ cs, v = .agg cs.toArray ∧ RexIs F w cs r := by
  obtain ⟨k, c, kids⟩ := r
  obtain ⟨vk, rfl, h1, h2⟩ := h
  exact ⟨_, rfl, rex_iff.2 ⟨vk, rfl, h1, h2⟩⟩
theorem RexIs.r {F : Nat → Prop} {w : World} {cs : List Value} {r : Rx} (h : RexIs F w cs r) : RexR F w (.agg cs.toArray) r := by
  obtain ⟨k, c, kids⟩ := r
  obtain ⟨vk, rfl, h1, h2⟩ := rex_iff.1 h
  exact ⟨vk, rfl, h1, h2⟩
/-! ### numbered -/
/-- a node's kids and their numbers -/
def kidsK (r : Re) (k : Nat) : List (Re × Nat) := match r with
  | .cat a b => [(a, k + 1), (b, k + 1 + a.size)]
  | .alt a b => [(a, k + 1), (b, k + 1 + a.size)]
  | .star a => [(a, k + 1)]
  | _ => []
/-- a numbered node that can be read, its kids' blocks being in F -/
inductive NumIs (F : Nat → Prop) (w : World) : List Value → Re × Nat → Prop
  | mk {r : Re} {k : Nat} {vk : Value} {base : Option Addr} {cap : Nat} (css : List (List Value)) : vk.oneCell' = true → (kidsK r k).length ≤ cap → cap ≤ maxLen → css.length = (kidsK r k).length →
    (∀ i (h : i < (kidsK r k).length) (h' : i < css.length), NumIs F w css[i] (kidsK r k)[i]) → (0 < (kidsK r k).length → ∃ b off, base = some ⟨b, off, none⟩ ∧ F b ∧ ∀ i (_ : i < (kidsK r k).length) (h' : i < css.length), Rd w b (off + i * 8) css[i]) →
    NumIs F w (.int .i64 r.kind :: (clsL r.cls ++ [vk, .int .i64 (k : Int), .slice base (kidsK r k).length cap])) (r, k)
theorem NumIs.stayed {F : Nat → Prop} {w w' : World} {cs : List Value} {t : Re × Nat} (h : NumIs F w cs t) (hk : ∀ k, F k → w'.heap[k]? = w.heap[k]?) : NumIs F w' cs t := by
  induction h with
  | mk css h2 h3 h4 h5 h6 h7 ih =>
    refine .mk css h2 h3 h4 h5 ih fun hl => ?_
    obtain ⟨b, off, e, hF, hr⟩ := h7 hl
    exact ⟨b, off, e, hF, fun i hi hi' => rd_stay (hr i hi hi') (hk b hF)⟩
theorem NumIs.mono {F F' : Nat → Prop} {w : World} {cs : List Value} {t : Re × Nat} (h : NumIs F w cs t) (hk : ∀ k, F k → F' k) : NumIs F' w cs t := by
  induction h with
  | mk css h2 h3 h4 h5 h6 h7 ih =>
    refine .mk css h2 h3 h4 h5 ih fun hl => ?_
    obtain ⟨b, off, e, hF, hr⟩ := h7 hl
    exact ⟨b, off, e, hk b hF, hr⟩
section
end
end Go.Proofs.Ytdbghmgajmlkmaa.eng

/- PlN -/
namespace Go.Proofs.Ytdbghmgajmlkmaa.eng
open Go.RowKit kit mix classL rexL
/-- blocks that are there already, and stay -/
def OldB (B : Base) (k : Nat) : Prop := k < B.w.heap.size ∧ ¬ B.X k
theorem at_oldB {B : Base} {L : List Own} {b off : Nat} {cs : List Value} (hb : OldB B b) (h : Rd B.w b off cs) (j : Nat) (v : Value) (hj : cs[j]? = some v) : At B L ⟨b, off + j, none⟩ v := fun w hm =>
  rd_stay h (hm.low.block b hb.1 hb.2) j v hj
end Go.Proofs.Ytdbghmgajmlkmaa.eng

/- ClassB -/
namespace Go.Proofs.Ytdbghmgajmlkmaa
open Go.RowKit kit mix classL
attribute [local go_sem] and64 or64 xor64 not64
theorem gr_alloc (w : World) (o : Obj) : Below w.heap.size w (w.alloc o) := (Below.refl _ _).alloc (Nat.le_refl _) _
end Go.Proofs.Ytdbghmgajmlkmaa

/- PlR -/
namespace Go.Proofs.Ytdbghmgajmlkmaa.eng
open Go.RowKit kit mix classL rexL
theorem row_slm {e : TypeId} {size n : Nat} {v : Value} {xs : List Value} (w : World) (h : (rowO e size v n xs).holds w) : ∃ a c, v = .slice a n c ∧ n ≤ 9223372036854775807 ∧ (0 < n → ∃ g, a = some ⟨g, 0, none⟩) := by
  rcases (show w.ownsRow 0 e size v n xs from h).2 with ⟨rfl, rfl⟩ | ⟨g, cap, cur, rfl, _, _, hn, hm, _⟩
  · exact ⟨_, _, rfl, by omega, fun h => by omega⟩
  · exact ⟨_, _, rfl, by unfold maxLen at hm; omega, fun _ => ⟨g, rfl⟩⟩
end Go.Proofs.Ytdbghmgajmlkmaa.eng

/- ItO -/
namespace Go.Proofs.Ytdbghmgajmlkmaa.eng
open Go.RowKit kit mix gramL treeL factsL itemL smallL
def itS : Shp itemL.Item := flatS itC 3 (fun _ => rfl) (fun _ => True)
theorem idx_map {κ τ : Type} [DecidableEq κ] [DecidableEq τ] (f : κ → τ) (x : κ) : ∀ (D : List κ), (∀ y ∈ D, f y = f x → y = x) → idx (D.map f) (f x) = idx D x
  | [], _ => rfl
  | y :: D, h => by
    have ih := idx_map f x D fun z hz => h z (List.mem_cons_of_mem _ hz)
    unfold idx at ih ⊢
    rw [List.map_cons, List.idxOf_cons, List.idxOf_cons, ih]
    by_cases e : y = x
    · subst e; simp
    · have : ¬ f y = f x := fun e2 => e (h y (List.mem_cons_self ..) e2)
      rw [show (f y == f x) = false by simpa using this, show (y == x) = false by simpa using e]
/-- items whose numbers are bytes -/
def SmallIt (s : List itemL.Item) : Prop := ∀ it ∈ s, 0 ≤ it.1 ∧ it.1 < 256 ∧ 0 ≤ it.2.1 ∧ it.2.1 < 256 ∧ 0 ≤ it.2.2 ∧ it.2.2 < 256
theorem mem_names {S : List (List itemL.Item)} {s : List itemL.Item} (hS : ∀ t ∈ S, SmallIt t) (hs : SmallIt s) : nameI s ∈ S.map nameI ↔ s ∈ S := by
  constructor
  · intro h
    obtain ⟨t, ht, e⟩ := List.mem_map.1 h
    rw [← name_inj (hS t ht) hs e]; exact ht
  · exact List.mem_map_of_mem
def stL (g6 gm g7 : Nat) (vS vN : Value) (vss : List Value) (F : Nat → Prop) (S : List (List itemL.Item)) : List Own :=
  [blkO g6 #[.map (some gm)] 98, mapO strK gm (mapAt (S.map nameI)) S.length, blkO g7 #[vS, vN] 67, rowO 99 1 vS S.length vss, elsO (sliceS itS) F (vss.map fun v => [v]) S]
theorem row_foot {w : World} {e : TypeId} {size n : Nat} {v : Value} {xs : List Value} (h : (rowO e size v n xs).holds w) : ∀ k, v.ownBlock = some k → k < w.heap.size := fun k hk => (rowO e size v n xs).lt w h k (.inl hk)
theorem it_of_row {w : World} {v : Value} {l : List itemL.Item} (h : (rowO 105 3 v l.length (l.flatMap itC)).holds w) : (sliceS itS).is (fun k => v.ownBlock = some k) w [v] l :=
  ⟨v, rfl, SlF.of_flat (Sl.of_own h) (fun _ _ => trivial) (fun _ h => h) (fun a n cp hv => by rw [hv]; rfl)⟩
set_option maxHeartbeats 4000000 in
theorem state_calls (g6 gm g7 : Nat) (vS vN : Value) (vss : List Value) (F : Nat → Prop) (S : List (List itemL.Item)) (vl : Value) (s : List itemL.Item) (hS : ∀ t ∈ S, SmallIt t) (hs : SmallIt s) (hSl : S.length ≤ 1000) (hsl : s.length ≤ 20000) (w : World) (B : Base)
    (hm : Mem B (stL g6 gm g7 vS vN vss F S ++ [rowO 105 3 vl s.length (s.flatMap itC)]) w) :
    Calls Try.prog 35 #[vl, .pointer (some ⟨g6, 0, none⟩), .pointer (some ⟨g7, 0, none⟩)] w (MeetsB ⟨fun (_ : Value × List Value × (Nat → Prop)) => True, fun _ => .int .i64 ((stateI S s).1 : Int), fun x => stL g6 gm g7 x.1 vN x.2.1 x.2.2 (stateI S s).2⟩ B) := by
  have hmn := mem_names hS hs
  have hix := idx_map nameI s S fun t ht e => name_inj (hS t ht) hs e
  have hok : strK.ok (nameI s) := by
    show (nameI s).length ≤ 9223372036854775807
    rw [nameI_len]; omega
  unfold stL at hm
  refine enterB hm (args := [vl, .pointer (some ⟨g6, 0, none⟩), .pointer (some ⟨g7, 0, none⟩)]) (n := 30) Try.func35 rfl rfl rfl ?_
  refine T_know (i := 3) rfl row_slm fun hrow => ?_
  obtain ⟨aS, cS, rfl, -⟩ := hrow
  repeat(first|refine QV QP ?_|refine QZ ?_|refine qcT rfl ?_|refine qcF rfl ?_|refine QV QL ?_|refine QV QA ?_|refine QV (rr_not rfl rfl) ?_)
  refine T_ord ([blkO g6 #[.map (some gm)] 98, mapO strK gm (mapAt (S.map nameI)) S.length, rowO 105 3 vl s.length (s.flatMap itC)]) (.calm 0 (.calm 1 (.calm 2 (.calm 3 (.calm 4 (.calm 5 (.calm 6 (.calm 7 (.calm 8 (.done)))))))))) (sub_pick [0, 1, 5] (by decide) rfl) (by kernel_rfl) (by kernel_rfl) (by intro c a d v w h; cases d <;> exact h) ?_
  repeat(first|((first|refine TW_plain rfl rfl ?_|refine TW_gmet rfl rfl rfl rfl ?_);first|refine QW QP ?_|refine QW (rr_load1 (v := .map (some gm)) TyC.ty rfl (at_blk (i := 0) rfl rfl)) ?_|refine QW QL ?_|refine QW QA ?_|refine QW (rr_not rfl rfl) ?_)|refine TW_done ?_)
  refine TW_call rfl (he1 EntersC.en rfl rfl) (fun w hm => name_calls vl s w (Sl.of_own (hm.get (i := 2) rfl)) hs hsl) rfl rfl rfl ?_
  by_cases c : s ∈ S
  · have hst : stateI S s = (idx S s, S) := if_pos c
    rw [hst]
    repeat(first|((first|refine TW_plain rfl rfl ?_|refine TW_gmet rfl rfl rfl rfl ?_);first|refine QW QP ?_|refine QW (rr_lookNumS (K := strK) (x := nameI s) Und.eq zero_i64 (i := 1) rfl rfl rfl hok (hmn.2 c)) ?_|refine QW QL ?_|refine QW QA ?_|refine QW (rr_not rfl rfl) ?_)|refine TW_done ?_)
    rw [hix]
    repeat(first|refine QV QP ?_|refine QZ ?_|refine qcT rfl ?_|refine qcF rfl ?_|refine QV QL ?_|refine QV QA ?_|refine QV (rr_not rfl rfl) ?_)
    exact E_ret1 rfl rfl fun w hm => hm.meetsB (S := ⟨fun (_ : Value × List Value × (Nat → Prop)) => True, fun _ => .int .i64 (idx S s : Int), fun x => stL g6 gm g7 x.1 vN x.2.1 x.2.2 S⟩) (.slice aS S.length cS, vss, F) trivial [0, 1, 2, 3, 4] (by decide) rfl
  · have hst : stateI S s = (S.length, S ++ [s]) := if_neg c
    rw [hst]
    have hn : nameI s ∉ S.map nameI := fun h => c (hmn.1 h)
    have hadd := mapAt_add hn
    have hnone : mapAt (S.map nameI) (nameI s) = none := if_neg hn
    rw [List.length_map] at hadd
    clear hix hmn
    repeat(first|((first|refine TW_plain rfl rfl ?_|refine TW_gmet rfl rfl rfl rfl ?_);first|refine QW QP ?_|refine QW (rr_lookNumN (K := strK) (x := nameI s) Und.eq zero_i64 (i := 1) rfl rfl rfl hok hn) ?_|refine QW QL ?_|refine QW QA ?_|refine QW (rr_not rfl rfl) ?_)|refine TW_done ?_)
    repeat(first|refine QV QP ?_|refine QZ ?_|refine qcT rfl ?_|refine qcF rfl ?_|refine QV (rr_load1 (v := .slice aS S.length cS) TyC.ty rfl (at_blk (i := 2) rfl rfl)) ?_|refine QV QL ?_|refine QV QA ?_|refine QV (rr_not rfl rfl) ?_)
    refine T_ord ([blkO g6 #[.map (some gm)] 98, rowO 105 3 vl s.length (s.flatMap itC)]) (.calm 0 (.calm 1 (.calm 2 (.calm 3 (.one 4 (.done)))))) (sub_pick [0, 5] (by decide) rfl) (by kernel_rfl) (by kernel_rfl) (by intro c a d v w h; cases d <;> exact h) ?_
    repeat(first|((first|refine TW_plain rfl rfl ?_|refine TW_gmet rfl rfl rfl rfl ?_);first|refine QW QP ?_|refine QW (rr_load1 (v := .map (some gm)) TyC.ty rfl (at_blk (i := 0) rfl rfl)) ?_|refine QW QL ?_|refine QW QA ?_|refine QW (rr_not rfl rfl) ?_)|refine TW_done ?_)
    refine TW_call rfl (he1 EntersC.en rfl rfl) (fun w hm => name_calls vl s w (Sl.of_own (hm.get (i := 1) rfl)) hs hsl) rfl rfl rfl ?_
    repeat(first|((first|refine TW_plain rfl rfl ?_|refine TW_gmet rfl rfl rfl rfl ?_);first|refine QW QP ?_|refine QW QL ?_|refine QW QA ?_|refine QW (rr_not rfl rfl) ?_)|refine TW_done ?_)
    refine TW_one rfl ?_
    refine TL_mapSet (i := 1) (x := nameI s) (v := .int .i64 (S.length : Int)) strK Und.eq rfl rfl rfl rfl hok (by omega) ?_
    conv=>arg 8;simp only[zA,zB,zC,zD,zE,zF,zG,zH,zI,rowS,ret,id_eq]
    rw [hadd, hnone, if_neg (by decide)]
    refine TW_on (sub_pick [0, 5] (by decide) rfl) ?_
    repeat(first|((first|refine TW_plain rfl rfl ?_|refine TW_gmet rfl rfl rfl rfl ?_);first|refine QW QP ?_|refine QW QL ?_|refine QW QA ?_|refine QW (rr_not rfl rfl) ?_)|refine TW_done ?_)
    repeat(first|refine QV QP ?_|refine QZ ?_|refine qcT rfl ?_|refine qcF rfl ?_|refine QV (rr_load1 (v := .slice aS S.length cS) TyC.ty rfl (at_blk (i := 2) rfl rfl)) ?_|refine QV QL ?_|refine QV QA ?_|refine QV (rr_not rfl rfl) ?_)
    refine TL_slv (i := 5) rfl fun hl1 hl2 => ?_
    refine TL_push1 (i := 3) rfl rfl hl1 hl2 rfl rfl (fun z h => by cases h; rfl) (by omega) (by omega) rfl fun z vS' => ?_
    conv=>arg 8;simp only[zA,zB,zC,zD,zE,zF,zG,zH,zI,rowS,ret,id_eq]
    refine TL_merge (elsO (sliceS itS) (fun k => F k ∨ vl.ownBlock = some k) ((vss.map fun v => [v]) ++ [[vl]]) (S ++ [s])) 5 4 [0, 1, 2, 3] (by decide) rfl rfl rfl (fun k hk => hk.elim (fun h => by cases h) fun h => h.elim (fun h => .inr (.inr h)) fun h => .inl (.inl h)) (fun w hr he => els_snoc he (it_of_row hr) (row_foot hr)) ?_
    conv=>arg 8;simp only[zA,zB,zC,zD,zE,zF,zG,zH,zI,rowS,ret,id_eq]
    repeat(first|refine QV QP ?_|refine QZ ?_|refine qcT rfl ?_|refine qcF rfl ?_|refine QV QL ?_|refine QV QA ?_|refine QV (rr_not rfl rfl) ?_)
    refine TL_slv (i := 3) rfl fun hv1 hv2 => TL_store1 (i := 2) rfl rfl rfl hv1 hv2 rfl ?_
    conv=>arg 8;simp only[zA,zB,zC,zD,zE,zF,zG,zH,zI,rowS,ret,id_eq]
    repeat(first|refine QV QP ?_|refine QZ ?_|refine qcT rfl ?_|refine qcF rfl ?_|refine QV QL ?_|refine QV QA ?_|refine QV (rr_not rfl rfl) ?_)
    exact E_ret1 rfl rfl fun w hm => hm.meetsB (S := ⟨fun (_ : Value × List Value × (Nat → Prop)) => True, fun _ => .int .i64 (S.length : Int), fun x => stL g6 gm g7 x.1 vN x.2.1 x.2.2 (S ++ [s])⟩) (vS', vss ++ [vl], fun k => F k ∨ vl.ownBlock = some k) trivial [0, 1, 2, 3, 4] (by decide) (by dsimp only [stL]; rw [List.map_append, List.map_append, List.length_append]; rfl)
end Go.Proofs.Ytdbghmgajmlkmaa.eng

/- Els -/
namespace Go.Proofs.Ytdbghmgajmlkmaa.eng
open Go.RowKit kit mix
section
variable {α : Type} {s : Shp α} {F : Nat → Prop} {vs : List Value} {S : List (List α)} {W : Base} {L : List Own} {w : World}
theorem els_count (h : (elsO (sliceS s) F (vs.map fun v => [v]) S).holds w) : vs.length = S.length := by have := h.1.1; rwa [List.length_map] at this
theorem els_is (h : (elsO (sliceS s) F (vs.map fun v => [v]) S).holds w) {q : Nat} (hq : q < S.length) {v : Value} (hv : vs[q]? = some v) : SlF s F w v S[q] := by
  have hnv : q < vs.length := (List.getElem?_eq_some_iff.1 hv).1
  obtain ⟨v', e, hs⟩ := h.1.2 q hq (by rw [List.length_map]; exact hnv)
  rw [List.getElem_map] at e
  have h2 := (List.getElem?_eq_some_iff.1 hv).2
  rw [h2] at e
  rw [(List.cons.inj e).1]
  exact hs
theorem els_form (h : (elsO (sliceS s) F (vs.map fun v => [v]) S).holds w) {q : Nat} (hq : q < S.length) {v : Value} (hv : vs[q]? = some v) : ∃ base cap, v = .slice base S[q].length cap ∧ S[q].length ≤ cap ∧ cap ≤ 9223372036854775807 ∧ (0 < S[q].length → ∃ b off, base = some ⟨b, off, none⟩) := by
  obtain ⟨base, cap, e, h1, h2, h3⟩ := els_is h hq hv
  exact ⟨base, cap, e, h1, by unfold maxLen at h2; omega, fun hn => let ⟨b, off, h4, _⟩ := h3 hn; ⟨b, off, h4⟩⟩
theorem els_sl {f : α → List Value} {c : Nat} {hc : ∀ a, (f a).length = c} {p : α → Prop} (hc0 : 0 < c) {i : Nat} (hi : L[i]? = some (elsO (sliceS (flatS f c hc p)) F (vs.map fun v => [v]) S)) {q : Nat} (hq : q < S.length) {v : Value} (hv : vs[q]? = some v) : SlL W L v S[q].length (S[q].flatMap f) := fun w hm =>
  SlF.flat hc0 (els_is (hm.get hi) hq hv)
end
end Go.Proofs.Ytdbghmgajmlkmaa.eng

/- Fam -/
namespace Go.Proofs.Ytdbghmgajmlkmaa.eng
open Go.RowKit kit mix
def famP (D : Nat → Prop) (f : Nat → Own) : Own where
  blk := none
  more := fun k => ∃ i, D i ∧ (f i).foot k
  holds := fun w => (∀ i, D i → (f i).holds w) ∧ ∀ i j, D i → D j → i ≠ j → ∀ k, (f i).foot k → ¬ (f j).foot k
  lt := fun w h k hk => by
    rcases hk with hk | ⟨i, hi, hk⟩
    · cases hk
    · exact (f i).lt w (h.1 i hi) k hk
  stay := fun w w' h hs hb => ⟨fun i hi => (f i).stay w w' (h.1 i hi) hs fun k hk => hb k (.inr ⟨i, hi, hk⟩), h.2⟩
theorem fam_congr {D D' : Nat → Prop} {f f' : Nat → Own} (h1 : ∀ k, D' k → D k) (h2 : ∀ k, D' k → f' k = f k) (w : World) (h : (famP D f).holds w) : (famP D' f').holds w :=
  ⟨fun i hi => by rw [h2 i hi]; exact h.1 i (h1 i hi), fun i j hi hj hij => by rw [h2 i hi, h2 j hj]; exact h.2 i j (h1 i hi) (h1 j hj) hij⟩
theorem fam_foot {D D' : Nat → Prop} {f f' : Nat → Own} (h1 : ∀ k, D' k → D k) (h2 : ∀ k, D' k → f' k = f k) (k : Nat) (h : (famP D' f').foot k) : (famP D f).foot k := by
  rcases h with h | ⟨i, hi, hk⟩
  · cases h
  · exact .inr ⟨i, h1 i hi, by rw [← h2 i hi]; exact hk⟩
/-- one more -/
def upd (f : Nat → Own) (i : Nat) (o : Own) : Nat → Own := fun k => if k = i then o else f k
theorem upd_ne {f : Nat → Own} {i j : Nat} {o : Own} (h : j ≠ i) : upd f i o j = f j := by unfold upd; rw [if_neg h]
theorem upd_eq {f : Nat → Own} {i : Nat} {o : Own} : upd f i o i = o := by unfold upd; rw [if_pos rfl]
theorem fam_put {D : Nat → Prop} {f : Nat → Own} {i : Nat} {o : Own} {w : World} (hi : ¬ D i) (h : (famP D f).holds w) (ho : o.holds w) (ha : ∀ k, (famP D f).foot k → ¬ o.foot k) : (famP (fun k => D k ∨ k = i) (upd f i o)).holds w := by
  have hf : ∀ j, D j → upd f i o j = f j := fun j hj => upd_ne fun e => hi (by subst e; exact hj)
  have hg : upd f i o i = o := upd_eq
  refine ⟨fun j hj => ?_, fun j k hj hk hjk q hq hq' => ?_⟩
  · rcases hj with hj | rfl
    · rw [hf j hj]; exact h.1 j hj
    · rw [hg]; exact ho
  · rcases hj with hj | rfl <;> rcases hk with hk | rfl
    · rw [hf j hj] at hq; rw [hf k hk] at hq'; exact h.2 j k hj hk hjk q hq hq'
    · rw [hf j hj] at hq; rw [hg] at hq'; exact ha q (.inr ⟨j, hj, hq⟩) hq'
    · rw [hg] at hq; rw [hf k hk] at hq'; exact ha q (.inr ⟨k, hk, hq'⟩) hq
    · exact hjk rfl
theorem fam_putF {D : Nat → Prop} {f : Nat → Own} {i : Nat} {o : Own} (hi : ¬ D i) (k : Nat) (h : (famP (fun k => D k ∨ k = i) (upd f i o)).foot k) : (famP D f).foot k ∨ o.foot k := by
  rcases h with h | ⟨j, hj, hk⟩
  · cases h
  · rcases hj with hj | rfl
    · exact .inl (.inr ⟨j, hj, by rw [upd_ne fun e => hi (by subst e; exact hj)] at hk; exact hk⟩)
    · exact .inr (by rw [upd_eq] at hk; exact hk)
section
variable {P : Program} {n : Nat} {W : Base} {fr : Fr} {L : List Own} {Q : Exit → Act → World → Prop} {ops : Array Oper} {rest : List Oper} {d : Nat}
theorem Mem.split {w : World} {q : Nat} {o : Own} (o1 o2 : Own) (h : Mem W L w) (hq : L[q]? = some o) (h1 : ∀ w, o.holds w → o1.holds w) (h2 : ∀ w, o.holds w → o2.holds w) (f1 : ∀ k, o1.foot k → o.foot k) (f2 : ∀ k, o2.foot k → o.foot k) (ha : ∀ w, o.holds w → ∀ k, o1.foot k → ¬ o2.foot k) : Mem W (L.set q o1 ++ [o2]) w := by
  have hr := h.reown o1 hq h1 f1
  have hoq := h.owns.all q o hq
  have hlen : q < L.length := (List.getElem?_eq_some_iff.1 hq).1
  refine ⟨h.low, OwnsP.both hr.owns (OwnsP.one (h2 w hoq.1) fun k hk => hoq.2 k (f2 k hk)) fun i j a b hi hj k hk hk' => ?_⟩
  match j, hj with
  | 0, hj =>
    simp only [List.getElem?_cons_zero, Option.some.injEq] at hj; subst hj
    by_cases e : q = i
    · subst e
      rw [List.getElem?_set_self hlen] at hi
      simp only [Option.some.injEq] at hi; subst hi
      exact ha w hoq.1 k hk hk'
    · rw [List.getElem?_set_ne e] at hi
      exact h.owns.apart i q a o (Ne.symm e) hi hq k hk (f2 k hk')
  | j + 1, hj => simp at hj
theorem Mem.merge2A {w : World} (o : Own) (i j : Nat) (js : List Nat) {o1 o2 : Own} {R : List Own} (h : Mem W L w) (hn : ([i, j] ++ js).Nodup) (h1 : L[i]? = some o1) (h2 : L[j]? = some o2) (hR : R = js.filterMap fun i => L[i]?) (hf : ∀ k, o.foot k → o1.foot k ∨ o2.foot k) (hh : ∀ w, o1.holds w → o2.holds w → (∀ k, o1.foot k → ¬ o2.foot k) → o.holds w) : Mem W (R ++ [o]) w := by
  have hij : i ≠ j := fun e => by subst e; simp at hn
  have ha := h.owns.apart i j o1 o2 hij h1 h2
  refine Mem.merge o (h.pick ([i, j] ++ js) hn ?_) hf (fun a b => hh w a b ha)
  rw [List.filterMap_append, ← hR]
  congr 1
  rw [List.filterMap_cons_some (by exact h1), List.filterMap_cons_some (by exact h2)]; rfl
theorem Mem.take {w : World} {q : Nat} {D : Nat → Prop} {f : Nat → Own} (i : Nat) (h : Mem W L w) (hq : L[q]? = some (famP D f)) (hi : D i) : Mem W (L.set q (famP (fun k => D k ∧ k ≠ i) f) ++ [f i]) w :=
  h.split _ _ hq (fun w h => fam_congr (fun k h => h.1) (fun _ _ => rfl) w h) (fun w h => h.1 i hi) (fun k h => fam_foot (fun k h => h.1) (fun _ _ => rfl) k h) (fun k h => .inr ⟨i, hi, h⟩) fun w h k hk hk' => by
    rcases hk with hk | ⟨j, ⟨hj, hne⟩, hk⟩
    · cases hk
    · exact h.2 j i hj hi hne k hk hk'
theorem T_take {c : Code} {q : Nat} {D : Nat → Prop} {f : Nat → Own} (i : Nat) (hq : L[q]? = some (famP D f)) (hi : D i) (h : T P n W c Q fr (L.set q (famP (fun k => D k ∧ k ≠ i) f) ++ [f i])) : T P n W c Q fr L := ⟨fun a w hr hm => h.go a w hr (hm.take i hq hi)⟩
theorem TL_take {q : Nat} {D : Nat → Prop} {f : Nat → Own} (i : Nat) (hq : L[q]? = some (famP D f)) (hi : D i) (h : TL P n W ops Q rest fr (L.set q (famP (fun k => D k ∧ k ≠ i) f) ++ [f i])) : TL P n W ops Q rest fr L := ⟨fun a w hr hm => h.go a w hr (hm.take i hq hi)⟩
theorem Mem.put {w : World} {D D' : Nat → Prop} {f f' : Nat → Own} {o : Own} {R : List Own} (x q j : Nat) (js : List Nat) (h : Mem W L w) (hn : ([q, j] ++ js).Nodup) (hq : L[q]? = some (famP D f)) (hj : L[j]? = some o) (hR : R = js.filterMap fun i => L[i]?) (hx : ¬ D x) (hD : ∀ k, D' k → D k ∨ k = x) (hf : ∀ k, D' k → f' k = upd f x o k) : Mem W (R ++ [famP D' f']) w :=
  h.merge2A _ q j js hn hq hj hR (fun k hk => fam_putF hx k (fam_foot hD hf k hk)) fun w h1 h2 h3 => fam_congr hD hf w (fam_put hx h1 h2 h3)
theorem TL_put {D D' : Nat → Prop} {f f' : Nat → Own} {o : Own} {R : List Own} (x q j : Nat) (js : List Nat) (hn : ([q, j] ++ js).Nodup) (hq : L[q]? = some (famP D f)) (hj : L[j]? = some o) (hR : R = js.filterMap fun i => L[i]?) (hx : ¬ D x) (hD : ∀ k, D' k → D k ∨ k = x) (hf : ∀ k, D' k → f' k = upd f x o k) (h : TL P n W ops Q rest fr (R ++ [famP D' f'])) : TL P n W ops Q rest fr L := ⟨fun a w hr hm => h.go a w hr (hm.put x q j js hn hq hj hR hx hD hf)⟩
theorem E_put {e : Exit} {D D' : Nat → Prop} {f f' : Nat → Own} {o : Own} {R : List Own} (x q j : Nat) (js : List Nat) (hn : ([q, j] ++ js).Nodup) (hq : L[q]? = some (famP D f)) (hj : L[j]? = some o) (hR : R = js.filterMap fun i => L[i]?) (hx : ¬ D x) (hD : ∀ k, D' k → D k ∨ k = x) (hf : ∀ k, D' k → f' k = upd f x o k) (h : E n W e Q fr (R ++ [famP D' f'])) : E n W e Q fr L := ⟨fun a w hr hm => h.go a w hr (hm.put x q j js hn hq hj hR hx hD hf)⟩
theorem at_hold {q : Nat} {o : Own} {p : Addr} {v : Value} (hq : L[q]? = some o) (h : ∀ w, o.holds w → w.cell? p = some v) : At W L p v := fun w hm => h w (hm.get hq)
theorem row_cell {g off size cap m k : Nat} {e : TypeId} {xs : List Value} {v : Value} {w : World} (h : (rowO e size (.slice (some ⟨g, 0, none⟩) m cap) k xs).holds w) (hv : xs[off]? = some v) : w.cell? ⟨g, off, none⟩ = some v := by
  have h : w.ownsRow 0 e size (.slice (some ⟨g, 0, none⟩) m cap) k xs := h
  have := h.cells (g := g) rfl off v hv
  rwa [addr_add, Nat.zero_add] at this
/-! ### rows that a function tells -/
def tabA {α : Type} (len : Nat) (f : Nat → α) : List α := (List.range len).map f
section
variable {α : Type}
theorem tabA_len (len : Nat) (f : Nat → α) : (tabA len f).length = len := by simp [tabA]
theorem tabA_get {len : Nat} (f : Nat → α) {k : Nat} (h : k < len) : (tabA len f)[k]? = some (f k) := by simp [tabA, h]
theorem tabA_set {len : Nat} (f g : Nat → α) (k : Nat) (v : α) (h : ∀ i, i < len → g i = if i = k then v else f i) : (tabA len f).set k v = tabA len g := by
  apply List.ext_getElem?
  intro i
  rw [List.getElem?_set]
  by_cases hi : i < len
  · rw [tabA_get g hi, h i hi]
    by_cases e : k = i
    · subst e; simp [tabA_len, hi]
    · rw [if_neg e, if_neg (fun e' => e e'.symm), tabA_get f hi]
  · have h1 : (tabA len g)[i]? = none := List.getElem?_eq_none (by rw [tabA_len]; omega)
    have h2 : (tabA len f)[i]? = none := List.getElem?_eq_none (by rw [tabA_len]; omega)
    rw [h1, h2]
    by_cases e : k = i
    · subst e; simp [tabA_len, hi]
    · rw [if_neg e]
theorem tabA_congr {len : Nat} {f g : Nat → α} (h : ∀ i, i < len → f i = g i) : tabA len f = tabA len g := by
  unfold tabA
  apply List.map_congr_left
  intro i hi
  exact h i (by simpa using hi)
theorem tabA_const (val : α → Value) (a : α) (len : Nat) : (tabA len fun _ => a).map val = List.replicate len (val a) := by
  unfold tabA
  rw [List.map_map]
  apply List.ext_getElem?
  intro i
  by_cases h : i < len <;> simp [h]
/-- a row of one-cell elements -/
def rowA (e : TypeId) (val : α → Value) (g len : Nat) (f : Nat → α) : Own := rowO e 1 (.slice (some ⟨g, 0, none⟩) len len) len ((tabA len f).map val)
theorem rowA_congr {e : TypeId} {val : α → Value} {g len : Nat} {f f' : Nat → α} (h : ∀ i, i < len → f i = f' i) : rowA e val g len f = rowA e val g len f' := by unfold rowA; rw [tabA_congr h]
theorem at_rowA {e : TypeId} {val : α → Value} {i g len k : Nat} {f : Nat → α} (hi : L[i]? = some (rowA e val g len f)) (hk : k < len) : At W L ⟨g, 0 + k, none⟩ (val (f k)) := at_row hi (by rw [Nat.zero_add, List.getElem?_map, tabA_get f hk]; rfl)
theorem rowA_set {e : TypeId} {val : α → Value} {g len k : Nat} {v : α} {f f' : Nat → α} (h : ∀ i, i < len → f' i = if i = k then v else f i) : rowO e 1 (.slice (some ⟨g, 0, none⟩) len len) len (((tabA len f).map val).set k (val v)) = rowA e val g len f' := by
  unfold rowA
  rw [← List.map_set, tabA_set f f' k v h]
theorem TL_storeA {e : TypeId} {val : α → Value} {ty : TypeId} {pos : String} {after : Array Edge} {t : TypeId} {p x : Operand} {i g off len : Nat} {v : α} {f : Nat → α} (f' : Nat → α) (hT : Ty P t false 1) (hi : L[i]? = some (rowA e val g len f)) (hp : ev fr p = some (.pointer (some ⟨g, 0 + off, none⟩))) (hx : ev fr x = some (val v)) (h1 : (val v).cells = #[val v]) (h2 : (val v).oneCell' = true) (hk : off < len) (hf : ∀ i, i < len → f' i = if i = off then v else f i)
    (h : TL P n W ops Q rest fr (L.set i (rowA e val g len f'))) : TL P n W ops Q (⟨none, .store t p x, ty, pos, after, none⟩ :: rest) fr L :=
  TL_storeRow hT hi hp hx h1 rfl h2 (by rw [List.length_map, tabA_len, Nat.zero_add]; exact hk) (by rw [Nat.zero_add, rowA_set hf]; exact h)
theorem TL_makeA {t e : TypeId} {x y : Operand} {bytes m : Nat} {k k' : IntKind} {ty : TypeId} {pos : String} {after : Array Edge} (val : α → Value) (z : α) [ElC P t e 1 bytes] [ZeroC P e #[val z]] (hx : ev fr x = some (.int k (m : Int))) (hy : ev fr y = some (.int k' (m : Int))) (hb : bytes * m ≤ 281474976710656) (h63 : m ≤ 9223372036854775807) (hn : Nat.blt d n = true)
    (h : ∀ g, TL P n W ops Q rest ((d, .slice (some ⟨g, 0, none⟩) m m) :: fr) (L ++ [rowA e val g m fun _ => z])) : TL P n W ops Q (⟨some d, .makeSlice t x y, ty, pos, after, none⟩ :: rest) fr L :=
  TL_makeRow hx hy hb h63 hn fun g => by
    have := h g
    unfold rowA at this
    rw [tabA_const] at this
    exact this
end
end
end Go.Proofs.Ytdbghmgajmlkmaa.eng

/- TreeS -/
namespace Go.Proofs.Ytdbghmgajmlkmaa.eng
open Go.RowKit kit mix gramL treeL
/-- a tree that can be read, its blocks being in F -/
inductive TreeIs (F : Nat → Prop) (w : World) : List Value → Tree → Prop
  | mk {p k : Int} {kids : List Tree} {base : Option Addr} {cap : Nat} (css : List (List Value)) : kit.okI64 p → kit.okI64 k → kids.length ≤ cap → cap ≤ maxLen → css.length = kids.length →
    (∀ i (h : i < kids.length) (h' : i < css.length), TreeIs F w css[i] kids[i]) → (0 < kids.length → ∃ b off, base = some ⟨b, off, none⟩ ∧ F b ∧ ∀ i (_ : i < kids.length) (h' : i < css.length), Rd w b (off + i * 3) css[i]) →
    TreeIs F w [.int .i64 p, .int .i64 k, .slice base kids.length cap] (.mk p k kids)
theorem TreeIs.len3 {F : Nat → Prop} {w : World} {cs : List Value} {t : Tree} (h : TreeIs F w cs t) : cs.length = 3 := by
  cases h; rfl
theorem TreeIs.stayed {F : Nat → Prop} {w w' : World} {cs : List Value} {t : Tree} (h : TreeIs F w cs t) (hk : ∀ k, F k → w'.heap[k]? = w.heap[k]?) : TreeIs F w' cs t := by
  induction h with
  | mk css h1 h2 h3 h4 h5 h6 h7 ih =>
    refine .mk css h1 h2 h3 h4 h5 ih fun hl => ?_
    obtain ⟨b, off, e, hF, hr⟩ := h7 hl
    exact ⟨b, off, e, hF, fun i hi hi' => rd_stay (hr i hi hi') (hk b hF)⟩
theorem TreeIs.mono {F F' : Nat → Prop} {w : World} {cs : List Value} {t : Tree} (h : TreeIs F w cs t) (hk : ∀ k, F k → F' k) : TreeIs F' w cs t := by
  induction h with
  | mk css h1 h2 h3 h4 h5 h6 h7 ih =>
    refine .mk css h1 h2 h3 h4 h5 ih fun hl => ?_
    obtain ⟨b, off, e, hF, hr⟩ := h7 hl
    exact ⟨b, off, e, hk b hF, hr⟩
def treeS : Shp Tree := ⟨3, TreeIs, fun h => h.len3, fun h hk => h.stayed hk, fun h hk => h.mono hk⟩
def treeV (p k : Int) (v : Value) : Value := .agg #[.int .i64 p, .int .i64 k, v]
/-- a tree that is a value -/
def TreeR (F : Nat → Prop) (w : World) (v : Value) (t : Tree) : Prop := ∃ vk, v = treeV t.prod t.tok vk ∧ kit.okI64 t.prod ∧ kit.okI64 t.tok ∧ SlF treeS F w vk t.kids
theorem TreeR.gr {w w' : World} {v : Value} {t : Tree} (h : TreeR (fun k => k < w.heap.size) w v t) (hg : Gr w w') : TreeR (fun k => k < w'.heap.size) w' v t :=
  let ⟨vk, h1, h2, h3, h4⟩ := h; ⟨vk, h1, h2, h3, h4.gr hg⟩
section
end
end Go.Proofs.Ytdbghmgajmlkmaa.eng

/- FactsT -/
namespace Go.Proofs.Ytdbghmgajmlkmaa.eng
open gramL factsL treeL countL
theorem fallsT {n : Nat} {l : List gramL.Prod} (hf : Fine n l) : Falls (stepS l) (fun s => okR n s ∧ s.R.getD 0 false = true) (lackS n) :=
  ⟨fun s hs => ⟨(fallsS hf).keep s hs.1, roundL_keep l ⟨s.E, s.R, s.M, false⟩ hs.2⟩, fun s hs => (fallsS hf).dec s hs.1⟩
theorem closed_of {g : Gram} {n : Nat} (hck : checkG g = 0) (hn : g.nons = n) : ClosedF g.prods (ofS n g.prods).E (ofF n g.prods) (ofW n g.prods) (ofS n g.prods).R (ofS n g.prods).M := by
  obtain ⟨_, _, a3, _⟩ := checkG_ok hck
  have hf := fine_of hck hn
  have hS : ClosedS g.prods (ofS n g.prods).E (ofS n g.prods).R (ofS n g.prods).M ∧ okR n (ofS n g.prods) ∧ (ofS n g.prods).R.getD 0 false = true := by
    obtain ⟨s', h1, h2, h3⟩ := fix_end (fallsT hf) _ ⟨List.replicate n false, (List.replicate n false).set 0 true, List.replicate n false, false⟩ ⟨⟨by simp, by simp, by simp⟩, by
      rw [List.getD_eq_getElem?_getD, List.getElem?_set_self (by simp; omega)]; rfl⟩ (Nat.le_refl _)
    have e : ofS n g.prods = roundL g.prods ⟨s'.E, s'.R, s'.M, false⟩ := h3
    obtain ⟨_, k2, k3, k4, k5⟩ := roundL_still g.prods ⟨s'.E, s'.R, s'.M, false⟩ h2
    have hk := (fallsT hf).keep s' h1
    rw [e]
    refine ⟨?_, hk⟩
    rw [k2, k3, k4]
    exact k5
  obtain ⟨hS1, hS2, hS3⟩ := hS
  have hF : okW n (ofF n g.prods) ∧ ∀ p ∈ g.prods, allF (ofS n g.prods).M p.2 true = true → (ofF n g.prods).getD p.1.toNat 0 ||| beginF (ofS n g.prods).E (ofF n g.prods) p.2 0 = (ofF n g.prods).getD p.1.toNat 0 := by
    obtain ⟨s', h1, h2, h3⟩ := fix_end (fallsF (E := (ofS n g.prods).E) (M := (ofS n g.prods).M) hf) _ (List.replicate n 0) ⟨by simp, fun x hx => by rw [List.eq_of_mem_replicate hx]; decide⟩ (Nat.le_refl _)
    obtain ⟨_, h4, h5⟩ := passF_still _ _ _ h2
    have h6 : ofF n g.prods = s' := by unfold ofF setsF; rw [h3]; exact h4
    rw [h6]; exact ⟨h1, h5⟩
  have hW : ((ofW n g.prods).getD 0 0).testBit 63 = true ∧ (∀ p ∈ g.prods, ∀ pre x post, p.2 = pre ++ x :: post → x.1 = 2 → (ofW n g.prods).getD x.2.toNat 0 ||| beginF (ofS n g.prods).E (ofF n g.prods) post ((ofW n g.prods).getD p.1.toNat 0) = (ofW n g.prods).getD x.2.toNat 0) ∧ okW n (ofW n g.prods) := by
    have hfl := fallsW (E := (ofS n g.prods).E) hF.1 hf
    have hfl2 : Falls (fun W => passW (ofS n g.prods).E (ofF n g.prods) g.prods W false) (fun W => okW n W ∧ (W.getD 0 0).testBit 63 = true) lack := ⟨fun s hs => ⟨hfl.keep s hs.1, passW_keep g.prods s false hs.2⟩, fun s hs => hfl.dec s hs.1⟩
    obtain ⟨s', h1, h2, h3⟩ := fix_end hfl2 _ ((List.replicate n 0).set 0 9223372036854775808) ⟨⟨by simp, fun x hx => by
      rcases List.mem_or_eq_of_mem_set hx with h | h
      · rw [List.eq_of_mem_replicate h]; decide
      · rw [h]; decide⟩, by rw [List.getD_eq_getElem?_getD, List.getElem?_set_self (by simp; omega)]; decide⟩ (Nat.le_refl _)
    obtain ⟨_, h4, h5⟩ := passW_still _ _ _ h2
    have h6 : ofW n g.prods = s' := by unfold ofW setsW; rw [h3]; exact h4
    rw [h6]
    exact ⟨h1.2, h5, h1.1⟩
  exact ⟨hS1, hF.2, hW.2.1, hS3, hW.1⟩
end Go.Proofs.Ytdbghmgajmlkmaa.eng

/- Look -/
namespace Go.Proofs.Ytdbghmgajmlkmaa.eng
open Go.RowKit kit mix gramL treeL factsL countL
theorem bits_andN {x y : Nat} (hx : x < 18446744073709551616) (hy : y < 18446744073709551616) : bits .and .u64 (x : Int) (y : Int) = ((x &&& y : Nat) : Int) := bits_and_u64_nat x y hx hy
end Go.Proofs.Ytdbghmgajmlkmaa.eng

/- CountA -/
namespace Go.Proofs.Ytdbghmgajmlkmaa.eng
open Go.RowKit kit mix gramL countL
theorem spanLaid : laidOutB Try.prog = true := by kernel_rfl
theorem spanRow : (83 : TypeId) < Try.prog.types.size := of_decide_eq_true (by kernel_rfl)
theorem spanWide : (match Try.prog.underlying 83 with | some (.array _ _) | some (.struct _) => true | _ => false) = true := by kernel_rfl
def spanV (x : Span) : Value := .agg #[.int .i64 x.1, .int .i64 x.2.1, .int .i64 x.2.2]
theorem span_key (x : Span) (h : kit.okI64 x.1 ∧ kit.okI64 x.2.1 ∧ kit.okI64 x.2.2) : ∃ l, keyOf Try.prog 83 (spanV x) = some l := by
  obtain ⟨a, b, c⟩ := x
  obtain ⟨h1, h2, h3⟩ := h
  have e1 : Try.prog.keyType 83 = true := by kernel_rfl
  have e2 : Try.prog.cellsOf 83 = 3 := by kernel_rfl
  have e3 : Try.prog.cellsOf 3 = 1 := by kernel_rfl
  have e4 : ∃ d, Try.prog.types.size + 1 = d + 2 := ⟨Try.prog.types.size - 1, by have : 0 < Try.prog.types.size := Nat.lt_of_le_of_lt (Nat.zero_le 83) spanRow; omega⟩
  obtain ⟨d, e4⟩ := e4
  have key : ∀ n : Int, kit.okI64 n → Try.prog.keyLits (d + 1) 3 [.int .i64 n] = some [.int .i64 n] := fun n hn => by
    have hw : (Lit.int .i64 n).wf = true := by
      have h0 : -9223372036854775808 ≤ n := hn.1
      have h1 : n ≤ 9223372036854775807 := hn.2
      simp [Lit.wf, IntKind.min, IntKind.max, IntKind.signed, IntKind.bits, h0, h1]
    simp [Program.keyLits, Try.underlying3, hw]
  refine ⟨.string (keyBytes ([.int .i64 a, .int .i64 b, .int .i64 c])), ?_⟩
  have hl : Try.prog.keyLits (d + 2) 83 [.int .i64 a, .int .i64 b, .int .i64 c] = some [.int .i64 a, .int .i64 b, .int .i64 c] := by
    unfold Program.keyLits
    simp [Try.underlying83, e2, e3, key _ h1, key _ h2, key _ h3]
  have hf : (spanV (a, b, c)).formed Try.prog 83 = true := by simp [spanV, Value.formed, Try.underlying83, e2]
  unfold keyOf
  rw [Try.underlying83]
  show (if (Try.prog.keyType 83 && (spanV (a, b, c)).formed Try.prog 83) = true then (Try.prog.keyLits (Try.prog.types.size + 1) 83 [.int .i64 a, .int .i64 b, .int .i64 c]).map (fun ls => Lit.string (keyBytes ls)) else none) = _
  rw [e1, hf, e4, hl]
  rfl
set_option maxRecDepth 100000 in
def spanK : KeyT Try.prog 83 Span where
  kv := spanV
  ok x := kit.okI64 x.1 ∧ kit.okI64 x.2.1 ∧ kit.okI64 x.2.2
  law := deep_law_laid spanLaid (m := 2) (by omega) spanRow (by kernel_rfl) spanWide
  key := span_key
  inj x y h := by
    obtain ⟨a, b, c⟩ := x
    obtain ⟨a', b', c'⟩ := y
    simp only [spanV, Value.agg.injEq, Array.mk.injEq, List.cons.injEq, Value.int.injEq, true_and, and_true] at h
    simp [h]
def chM (gm : Nat) (c : Chart) (B : Nat) : Own := mapT spanK gm (.int .i64 0) (fun x => .int .i64 (c x : Int)) B
def chV (t n : Int) (vp vw : Value) (gm : Nat) : Array Value := #[.int .i64 t, .int .i64 n, vp, vw, .map (some gm)]
/-- a chart that can be read -/
structure ChR (w : World) (gc gm : Nat) (t n : Int) (vp vw : Value) (word : List Int) (c : Chart) (B : Nat) : Prop where
  cell : w.heap[gc]? = some (.cells (chV t n vp vw gm) 79 (0, 0))
  map : (chM gm c B).holds w
  word : Sl w vw word.length (word.map (.int .i64))
theorem ChR.gr {w w' : World} {gc gm : Nat} {t n : Int} {vp vw : Value} {word : List Int} {c : Chart} {B : Nat} (h : ChR w gc gm t n vp vw word c B) (hg : Gr w w') : ChR w' gc gm t n vp vw word c B :=
  ⟨(hg.block gc (Array.getElem?_eq_some_iff.1 h.cell).1).trans h.cell, (chM gm c B).stay w w' h.map hg.size fun k hk => hg.block k ((chM gm c B).lt w h.map k hk), h.word.gr hg⟩
end Go.Proofs.Ytdbghmgajmlkmaa.eng

/- CountC -/
namespace Go.Proofs.Ytdbghmgajmlkmaa.eng
open Go.RowKit kit mix gramL countL
/-- what a grammar's productions are like -/
def FineC (n : Nat) (l : List gramL.Prod) : Prop := ∀ p ∈ l, 0 ≤ p.1 ∧ p.1 < (n : Int) ∧ ∀ x ∈ p.2, kit.okI64 x.2
end Go.Proofs.Ytdbghmgajmlkmaa.eng

/- CountD -/
namespace Go.Proofs.Ytdbghmgajmlkmaa.eng
open Go.RowKit kit mix gramL countL
theorem fineC_of {g : Gram} {n : Nat} (h : checkG g = 0) (hn : g.nons = n) : FineC n g.prods ∧ NonsIn n g.prods := by
  obtain ⟨a1, a2, a3, a4, a5, a6⟩ := checkG_ok h
  refine ⟨fun p hp => ?_, fun p hp x hx h2 => ?_⟩
  · obtain ⟨b1, b2, b3, b4⟩ := a6 p hp
    refine ⟨b2, by omega, fun x hx => ?_⟩
    have := b4 x hx
    unfold right at this
    split at this
    · simp at this; exact ⟨by omega, by omega⟩
    · split at this
      · simp at this; exact ⟨by omega, by omega⟩
      · simp at this
  · have := (a6 p hp).2.2.2 x hx
    unfold right at this
    rw [if_neg (by omega), if_pos h2] at this
    simp at this; omega
end Go.Proofs.Ytdbghmgajmlkmaa.eng

/- LlM -/
namespace Go.Proofs.Ytdbghmgajmlkmaa.eng
open Go.RowKit kit mix gramL treeL countL factsL derL llL
attribute [local irreducible] Op.shift Go.bits in
theorem bit_calls (t : Nat) (n : Int) (vp : Value) (col : Nat) (w : World) (ht : t ≤ 30) (hc : col ≤ t) (hv : ∃ b m c, vp = .slice b m c) :
    Calls Try.prog 33 #[graV (t : Int) n vp, .int .i64 (col : Int)] w (Meets (ret (bitV (bitC t col))) w) := by
  obtain ⟨b, m, c, rfl⟩ := hv
  have hsh := fun w => shl1 (P := Try.prog) col (by omega) w
  unfold bitC
  refine enter (args := [graV (t : Int) n (.slice b m c), .int .i64 (col : Int)]) (n := 11) Try.func33 rfl rfl rfl ?_
  refine T_seq (T_region (TL_box rfl rfl rfl fun g2 => ?_))
  by_cases e : col = t
  · rw [if_pos e]
    repeat(first|refine QV QP ?_|refine QZ ?_|refine qcT rfl ?_|refine qcF rfl ?_|refine QV (rr_load1 TyC.ty rfl (at_blk (i := 0) rfl rfl)) ?_|refine QV QA ?_|refine QV QeT ?_|refine QV QeF ?_)
    exact E_ret1 rfl rfl fun w hm => hm.ret
  · rw [if_neg e]
    repeat(first|refine QV QP ?_|refine QZ ?_|refine qcT rfl ?_|refine qcF rfl ?_|refine QV (rr_load1 TyC.ty rfl (at_blk (i := 0) rfl rfl)) ?_|refine QV (rr_shl rfl rfl hsh) ?_|refine QV QA ?_|refine QV QeT ?_|refine QV QeF ?_)
    exact E_ret1 rfl rfl fun w hm => hm.ret
def clC (x : Cl) : List Value := [.int .i64 x.1, .int .i64 x.2.1, .int .i64 x.2.2.1, .int .i64 x.2.2.2]
theorem build_cl (a b c d : Int) (w : World) : (Instr.build 95 #[(0, .int .i64 a), (1, .int .i64 b), (2, .int .i64 c), (3, .int .i64 d)]).run Try.prog w = .ok (.agg (clC (a, b, c, d)).toArray) w := by
  unfold clC; go_simp
abbrev vals (v : Value) : Value := v
def intV (n : Int) : Value := .int .i64 n
/-- how far the rows are -/
def cntL (T n c j : Nat) : Nat := if j < n then T + 1 else if j = n then c else 0
def rowsF (l : List gramL.Prod) (may : Nat → Nat) (T : Nat) (vs : Nat → Value) (n c : Nat) (j : Nat) : Own := rowO 3 1 (vs j) (cntL T n c j) ((tabA (cntL T n c j) (llL.rowAt l may T j)).map intV)
def makeS (N T : Nat) (l : List gramL.Prod) (may : Nat → Nat) : Spec (Nat × (Nat → Value) × Value) :=
  ⟨fun _ => True, fun x => .tuple #[.slice (some ⟨x.1, 0, none⟩) N N, x.2.2, .int .i64 0], fun x => [rowA 46 vals x.1 N x.2.1, famP (fun j => j < N) (rowsF l may T x.2.1 N 0), rowO 95 4 x.2.2 (rowO' l may T N).length ((rowO' l may T N).flatMap clC)]⟩
def mayG (n : Nat) (l : List gramL.Prod) (i : Nat) : Nat := beginF (ofS n l).E (ofF n l) (prodAt l (i : Int)).2 ((ofW n l).getD (prodAt l (i : Int)).1.toNat 0)
section
variable {l : List gramL.Prod} {may : Nat → Nat} {T : Nat}
theorem outL_len (n col : Nat) : ∀ (k : Nat) (out : List Cl), (outL l may T n col k out).length ≤ out.length + k
  | 0, out => by rw [outL]; omega
  | k + 1, out => by
    have := outL_len n col k out
    rw [outL]
    split
    · split
      · omega
      · rw [List.length_append]; simp; omega
    · omega
theorem colO_len (n : Nat) : ∀ (c : Nat) (out : List Cl), (colO l may T n c out).length ≤ out.length + c * l.length
  | 0, out => by rw [colO]; omega
  | c + 1, out => by
    have h1 := colO_len n c out
    have h2 := outL_len (l := l) (may := may) (T := T) n c l.length (colO l may T n c out)
    rw [colO, Nat.succ_mul]; omega
theorem rowO_len : ∀ (N : Nat), (rowO' l may T N).length ≤ N * ((T + 1) * l.length)
  | 0 => by rw [rowO']; simp
  | N + 1 => by
    have h1 := rowO_len N
    have h2 := colO_len (l := l) (may := may) (T := T) N (T + 1) (rowO' l may T N)
    rw [rowO', Nat.succ_mul]; omega
end
theorem ofW_okW2 {g : Gram} {n : Nat} (hck : checkG g = 0) (hn : g.nons = n) : okW n (ofW n g.prods) := by
  obtain ⟨_, _, a3, _⟩ := checkG_ok hck
  have hf := fine_of hck hn
  have hF := (ofW_ok hck hn).2
  have hfl := fallsW (E := (ofS n g.prods).E) hF hf
  obtain ⟨s', h1, h2, h3⟩ := fix_end hfl _ ((List.replicate n 0).set 0 9223372036854775808) ⟨by simp, fun x hx => by
    rcases List.mem_or_eq_of_mem_set hx with h | h
    · rw [List.eq_of_mem_replicate h]; decide
    · rw [h]; decide⟩ (Nat.le_refl _)
  obtain ⟨_, h4, h5⟩ := passW_still _ _ _ h2
  have h6 : ofW n g.prods = s' := by unfold ofW setsW; rw [h3]; exact h4
  rw [h6]
  exact h1
attribute [local irreducible] Op.shift Go.bits Instr.build in
set_option maxRecDepth 100000 in
set_option maxHeartbeats 16000000 in
theorem llMake_calls (v : Value) (g : Gram) (w : World) (h : GraR (fun k => k < w.heap.size) w v g) (hg : checkG g = 0) (T N : Nat) (hT : g.terms = T) (hN : g.nons = N) :
    Calls Try.prog 18 #[v] w (Meets (makeS N T g.prods (mayG N g.prods)) w) := by
  obtain ⟨a1, a2, a3, a4, a5, a6⟩ := checkG_ok hg
  have hof := fun w' (hg' : Gr w w') => of_calls v g w' (h.gr hg') hg N hN
  have hbe : ∀ body : List Sym, body ∈ g.prods.map (·.2) → begE g body = 0 ∧ ∀ b, begV g body b = beginF (ofS N g.prods).E (ofF N g.prods) body b := fun body hb => by
    obtain ⟨p, hp, rfl⟩ := List.mem_map.1 hb
    obtain ⟨b1, b2, b3, b4⟩ := a6 p hp
    have e : begE g p.2 = 0 := by
      unfold begE
      rw [if_neg (by simpa using hg), if_neg (by omega)]
      exact badE_of b4
    refine ⟨e, fun b => ?_⟩
    unfold begV
    rw [if_pos e, show g.nons.toNat = N by omega]
  have hBg := fun vb body b w' (hg : Gr w w') hs => factsBegin_calls v vb g body b w' (h.gr hg) hs
  obtain ⟨_, hF⟩ := ofW_ok hg hN
  have hWW := ofW_okW2 hg hN
  have hfi := fineC_of hg hN
  have hmay : mayG N g.prods = fun i : Nat => beginF (ofS N g.prods).E (ofF N g.prods) (prodAt g.prods (i : Int)).2 ((ofW N g.prods).getD (prodAt g.prods (i : Int)).1.toNat 0) := rfl
  have hmlt : ∀ i, mayG N g.prods i < 18446744073709551616 := fun i => by
    refine beginF_lt hF (getD_lt hWW _) fun x hx h1 => ?_
    by_cases c : i < g.prods.length
    · rw [prodAt_get c] at hx
      have := (a6 _ (List.getElem_mem c)).2.2.2 x hx
      unfold right at this
      rw [if_pos h1] at this
      simp at this; omega
    · unfold prodAt at hx
      rw [Int.toNat_natCast, List.getD_eq_getElem?_getD, List.getElem?_eq_none (by omega)] at hx
      cases hx
  generalize hmm : mayG N g.prods = may at *
  obtain ⟨vp, rfl, h1, _⟩ := h
  obtain ⟨t, nn, prods⟩ := g
  dsimp only at *
  subst hT hN
  have h10 := h1
  obtain ⟨bp, cp, rfl, hcp, hmp, hrp⟩ := h1
  unfold maxLen at hmp
  refine enter (args := [graV (T : Int) (N : Int) (.slice bp prods.length cp)]) (n := 119) Try.func18 rfl rfl rfl ?_
  refine T_seq (T_region (TL_box rfl rfl rfl fun g1 => ?_))
  conv=>arg 8;simp only[zA,zB,zC,zD,zE,zF,zG,zH,zI,rowS,ret,id_eq]
  repeat(first|refine QV QP ?_|refine QZ ?_|refine qcT rfl ?_|refine qcF rfl ?_|refine E_blockX ?_|refine E_blockO rfl ?_|refine qs rfl rfl rfl rfl rfl rfl ?_|((try refine qg rfl rfl rfl ?_);first|refine QV QP ?_|refine QV (rr_loadB (i := 0) TyC.ty rfl rfl rfl) ?_|refine QV QL ?_|refine QV QA ?_|refine QV QlT ?_|refine QV QlF ?_|refine QV QnT ?_|refine QV QnF ?_|refine QV QaA ?_|refine QV QeT ?_|refine QV QeF ?_))
  refine TL_call (he1 EntersC.en rfl rfl) (fun w' hm => (hof w' hm.below).mono fun e w2 h => meets_of h) rfl rfl rfl ?_
  intro x _
  conv=>arg 8;simp only[zA,zB,zC,zD,zE,zF,zG,zH,zI,rowS,ret,id_eq, Rows5.val]
  refine TL_pick [0, 3] (by decide) rfl ?_
  repeat(first|refine QV QP ?_|refine QZ ?_|refine qcT rfl ?_|refine qcF rfl ?_|refine E_blockX ?_|refine E_blockO rfl ?_|refine qs rfl rfl rfl rfl rfl rfl ?_|((try refine qg rfl rfl rfl ?_);first|refine QV QP ?_|refine QV QL ?_|refine QV QA ?_|refine QV QlT ?_|refine QV QlF ?_|refine QV QnT ?_|refine QV QnF ?_|refine QV QaA ?_|refine QV QeT ?_|refine QV QeF ?_))
  refine TL_new rfl fun g5 => ?_
  refine TL_storeB (i := 2) rfl rfl rfl rfl rfl rfl ?_
  conv=>arg 8;simp only[zA,zB,zC,zD,zE,zF,zG,zH,zI,rowS,ret,id_eq]
  repeat(first|refine QV QP ?_|refine QZ ?_|refine qcT rfl ?_|refine qcF rfl ?_|refine E_blockX ?_|refine E_blockO rfl ?_|refine qs rfl rfl rfl rfl rfl rfl ?_|((try refine qg rfl rfl rfl ?_);first|refine QV QP ?_|refine QV (rr_load1 TyC.ty rfl (at_blk (i := 0) rfl rfl)) ?_|refine QV QL ?_|refine QV QA ?_|refine QV QlT ?_|refine QV QlF ?_|refine QV QnT ?_|refine QV QnF ?_|refine QV QaA ?_|refine QV QeT ?_|refine QV QeF ?_))
  have hz : ZeroC Try.prog 58 #[bitV 0] := (inferInstance : ZeroC Try.prog 58 #[.int .u64 0])
  refine TL_makeA bitV 0 rfl rfl (by omega) (by omega) rfl fun g7 => ?_
  conv=>arg 8;simp only[zA,zB,zC,zD,zE,zF,zG,zH,zI,rowS,ret,id_eq]
  repeat(first|refine QV QP ?_|refine QZ ?_|refine qcT rfl ?_|refine qcF rfl ?_|refine E_blockX ?_|refine E_blockO rfl ?_|refine qs rfl rfl rfl rfl rfl rfl ?_|((try refine qg rfl rfl rfl ?_);first|refine QV QP ?_|refine QV (rr_load1 TyC.ty rfl (at_blk (i := 0) rfl rfl)) ?_|refine QV QL ?_|refine QV QA ?_|refine QV QlT ?_|refine QV QlF ?_|refine QV QnT ?_|refine QV QnF ?_|refine QV QaA ?_|refine QV QeT ?_|refine QV QeF ?_))
  refine T_loop (ι := Nat) (fun k => k ≤ prods.length) (fun k => [(1, .pointer (some ⟨g1, 0, none⟩)), (5, .pointer (some ⟨g5, 0, none⟩)), (7, .slice (some ⟨g7, 0, none⟩) prods.length prods.length), (30, .slice bp prods.length cp), (31, .int .i64 prods.length), (32, .int .i64 (k : Int))])
    (fun k => [blkO g1 (graV (T : Int) (N : Int) (.slice bp prods.length cp)).cells 24, rowNn N x.gW x.cW (ofW N prods), blkO g5 (facV (vRow N x.gE x.cE) (vRow N x.gF x.cF) (vRow N x.gW x.cW) (vRow N x.gR x.cR) (vRow N x.gM x.cM)).cells 35, rowA 58 bitV g7 prods.length (fun j => if j < k then may j else 0)]) (fun k => prods.length - k) 0 (Nat.zero_le _) (by repeat' (first | exact True.intro | refine And.intro rfl ?_)) (by rw [show (fun j => if j < 0 then may j else 0) = fun _ => 0 from funext fun j => if_neg (by omega)]; rfl) ?_
  intro k k1
  by_cases c7 : k < prods.length
  · obtain ⟨b, off, rfl, _, hr⟩ := hrp (by omega)
    obtain ⟨bb, cb, y1, y2, y3⟩ := prod_at hr c7
    have hat : ∀ (L : List Own) (j : Nat) (v : Value), ([.int .i64 prods[k].1, .slice bb prods[k].2.length cb] : List Value)[j]? = some v → At w L ⟨b, off + k * 2 + j, none⟩ v := fun L j v hj => at_old (y1 j v hj)
    have hfl := y3.flat (by decide)
    obtain ⟨b1, b2, b3, b4⟩ := a6 _ (List.getElem_mem c7)
    obtain ⟨hb1, hb2⟩ := hbe prods[k].2 (List.mem_map.2 ⟨_, List.getElem_mem c7, rfl⟩)
    have hmk : may k = beginF (ofS N prods).E (ofF N prods) prods[k].2 ((ofW N prods).getD prods[k].1.toNat 0) := by rw [hmay]; dsimp only; rw [prodAt_get c7]
    clear y1 y3 hr hbe hrp
    generalize prods[k] = pd at *
    obtain ⟨hd, body⟩ := pd
    dsimp only at *
    obtain ⟨hn, rfl⟩ : ∃ hn : Nat, hd = hn := ⟨hd.toNat, by omega⟩
    have hlt : hn < N := by omega
    rw [Int.toNat_natCast] at hmk
    have hWat : ((ofW N prods).map bitV)[0 + hn]? = some (bitV ((ofW N prods).getD hn 0)) := by rw [Nat.zero_add]; exact bit_at (by rw [hWW.1]; exact hlt)
    have hWlt := getD_lt hWW hn
    have hBg := fun w' hg hs => hBg (.slice bb body.length cb) body ((ofW N prods).getD hn 0) w' hg hs hWlt
    rw [hb1, hb2, ← hmk] at hBg
    generalize (ofW N prods).getD hn 0 = wv at *
    repeat(first|refine QV QP ?_|refine QZ ?_|refine qcT rfl ?_|refine qcF rfl ?_|refine E_blockX ?_|refine E_blockO rfl ?_|refine qs rfl rfl rfl rfl rfl rfl ?_|((try refine qg rfl rfl rfl ?_);first|refine QV QP ?_|refine QV (rr_idxc Und.eq TyC.ty rfl rfl c7) ?_|refine QV (rr_loadN TyC.ty rfl rfl (hat _)) ?_|refine QV QL ?_|refine QV QA ?_|refine QV QlT ?_|refine QV QlF ?_|refine QV QnT ?_|refine QV QnF ?_|refine QV QaA ?_|refine QV QeT ?_|refine QV QeF ?_))
    refine TL_new rfl fun g9 => ?_
    repeat(first|refine QV QP ?_|refine QZ ?_|refine qcT rfl ?_|refine qcF rfl ?_|refine E_blockX ?_|refine E_blockO rfl ?_|refine qs rfl rfl rfl rfl rfl rfl ?_|((try refine qg rfl rfl rfl ?_);first|refine QV QP ?_|refine QV QL ?_|refine QV QA ?_|refine QV QlT ?_|refine QV QlF ?_|refine QV QnT ?_|refine QV QnF ?_|refine QV QaA ?_|refine QV QeT ?_|refine QV QeF ?_))
    refine TL_storeB (i := 4) rfl rfl rfl rfl rfl rfl ?_
    conv=>arg 8;simp only[zA,zB,zC,zD,zE,zF,zG,zH,zI,rowS,ret,id_eq]
    repeat(first|refine QV QP ?_|refine QZ ?_|refine qcT rfl ?_|refine qcF rfl ?_|refine E_blockX ?_|refine E_blockO rfl ?_|refine qs rfl rfl rfl rfl rfl rfl ?_|((try refine qg rfl rfl rfl ?_);first|refine QV QP ?_|refine QV QL ?_|refine QV QA ?_|refine QV QlT ?_|refine QV QlF ?_|refine QV QnT ?_|refine QV QnF ?_|refine QV QaA ?_|refine QV QeT ?_|refine QV QeF ?_))
    refine T_ord ([blkO g1 (graV (T : Int) (N : Int) (.slice (some ⟨b, off, none⟩) prods.length cp)).cells 24, rowNn N x.gW x.cW (ofW N prods), blkO g5 (facV (vRow N x.gE x.cE) (vRow N x.gF x.cF) (vRow N x.gW x.cW) (vRow N x.gR x.cR) (vRow N x.gM x.cM)).cells 35, blkO g9 #[.int .i64 (hn : Int), .slice bb body.length cb] 53]) (.calm 0 (.calm 1 (.calm 2 (.calm 3 (.calm 4 (.calm 5 (.calm 6 (.calm 7 (.calm 8 (.calm 9 (.calm 10 (.calm 11 (.calm 12 (.calm 13 (.calm 14 (.calm 15 (.one 16 (.done)))))))))))))))))) (sub_pick [0, 1, 2, 4] (by decide) rfl) (by kernel_rfl) (by kernel_rfl) (by intro c a d v w h; cases d <;> exact h) ?_
    repeat(first|((first|refine TW_plain rfl rfl ?_|refine TW_gmet rfl rfl rfl rfl ?_);first|refine QW QP ?_|refine QW (rr_loadB (i := 0) TyC.ty rfl rfl rfl) ?_|refine QW (rr_load1 TyC.ty rfl (at_blk (i := 3) rfl rfl)) ?_|refine QW (rr_load1 TyC.ty rfl (at_blk (i := 2) rfl rfl)) ?_|refine QW (rr_idx1 Und.eq TyC.ty rfl rfl hlt) ?_|refine QW (rr_load1 TyC.ty rfl (at_row (i := 1) rfl hWat)) ?_|refine QW QL ?_|refine QW QA ?_|refine QW QlT ?_|refine QW QlF ?_|refine QW QnT ?_|refine QW QnF ?_|refine QW QaA ?_|refine QW QeT ?_|refine QW QeF ?_)|refine TW_skip rfl rfl rfl rfl rfl rfl rfl ?_|refine TW_done ?_)
    refine TW_call rfl (he3 EntersC.en rfl rfl rfl rfl) (fun w hm => hBg _ hm.below (hfl.gr hm.below)) rfl rfl rfl ?_
    repeat(first|((first|refine TW_plain rfl rfl ?_|refine TW_gmet rfl rfl rfl rfl ?_);first|refine QW QP ?_|refine QW (rr_idx1 Und.eq TyC.ty rfl rfl c7) ?_|refine QW QL ?_|refine QW QA ?_|refine QW QlT ?_|refine QW QlF ?_|refine QW QnT ?_|refine QW QnF ?_|refine QW QaA ?_|refine QW QeT ?_|refine QW QeF ?_)|refine TW_skip rfl rfl rfl rfl rfl rfl rfl ?_|refine TW_done ?_)
    refine TW_one rfl ?_
    refine TL_storeA (i := 3) (v := may k) (fun j => if j < k + 1 then may j else 0) TyC.ty rfl rfl rfl rfl rfl c7 (fun j _ => by
      by_cases e : j = k
      · subst e; simp
      · by_cases e2 : j < k
        · simp [e, e2, show j < k + 1 by omega]
        · simp [e, e2, show ¬ j < k + 1 by omega]) ?_
    conv=>arg 8;simp only[zA,zB,zC,zD,zE,zF,zG,zH,zI,rowS,ret,id_eq]
    refine TW_on (sub_pick [0, 1, 2, 4] (by decide) rfl) ?_
    repeat(first|((first|refine TW_plain rfl rfl ?_|refine TW_gmet rfl rfl rfl rfl ?_);first|refine QW QP ?_|refine QW QL ?_|refine QW QA ?_|refine QW QlT ?_|refine QW QlF ?_|refine QW QnT ?_|refine QW QnF ?_|refine QW QaA ?_|refine QW QeT ?_|refine QW QeF ?_)|refine TW_skip rfl rfl rfl rfl rfl rfl rfl ?_|refine TW_done ?_)
    repeat(first|refine QV QP ?_|refine QZ ?_|refine qcT rfl ?_|refine qcF rfl ?_|refine E_blockX ?_|refine E_blockO rfl ?_|refine qs rfl rfl rfl rfl rfl rfl ?_|((try refine qg rfl rfl rfl ?_);first|refine QV QP ?_|refine QV QL ?_|refine QV QA ?_|refine QV QlT ?_|refine QV QlF ?_|refine QV QnT ?_|refine QV QnF ?_|refine QV QaA ?_|refine QV QeT ?_|refine QV QeF ?_))
    refine E_pick [0, 1, 2, 3] (by decide) rfl ?_
    exact E_round (k + 1) (by omega) (by omega) (by repeat' (first | exact True.intro | refine And.intro rfl ?_)) rfl
  · obtain rfl : k = prods.length := by omega
    rw [show rowA 58 bitV g7 prods.length (fun j => if j < prods.length then may j else 0) = rowA 58 bitV g7 prods.length may from rowA_congr fun j hj => if_pos hj]
    clear hBg hbe hof hmay
    repeat(first|refine QV QP ?_|refine QZ ?_|refine qcT rfl ?_|refine qcF rfl ?_|refine E_blockX ?_|refine E_blockO rfl ?_|refine qs rfl rfl rfl rfl rfl rfl ?_|((try refine qg rfl rfl rfl ?_);first|refine QV QP ?_|refine QV (rr_load1 TyC.ty rfl (at_blk (i := 0) rfl rfl)) ?_|refine QV QL ?_|refine QV QA ?_|refine QV QlT ?_|refine QV QlF ?_|refine QV QnT ?_|refine QV QnF ?_|refine QV QaA ?_|refine QV QeT ?_|refine QV QeF ?_))
    refine TL_makeA vals (.slice none 0 0) rfl rfl (by omega) (by omega) rfl fun g10 => ?_
    conv=>arg 8;simp only[zA,zB,zC,zD,zE,zF,zG,zH,zI,rowS,ret,id_eq]
    repeat(first|refine QV QP ?_|refine QZ ?_|refine qcT rfl ?_|refine qcF rfl ?_|refine E_blockX ?_|refine E_blockO rfl ?_|refine qs rfl rfl rfl rfl rfl rfl ?_|((try refine qg rfl rfl rfl ?_);first|refine QV QP ?_|refine QV QL ?_|refine QV QA ?_|refine QV QlT ?_|refine QV QlF ?_|refine QV QnT ?_|refine QV QnF ?_|refine QV QaA ?_|refine QV QeT ?_|refine QV QeF ?_))
    refine T_pick [0, 3, 4] (by decide) rfl ?_
    refine T_extra (famP (fun j => j < N) (rowsF prods may T (fun _ => .slice none 0 0) 0 0)) (fun k hk => hk.elim (fun h => by cases h) fun ⟨i, hi, h⟩ => h.elim (fun h => by cases h) id) (fun w => ⟨fun i hi => ?_, fun i j _ _ _ k h => h.elim (fun h => by cases h) False.elim⟩) ?_
    · unfold rowsF cntL
      rw [if_neg (by omega), ite_self]
      exact World.ownsRow_nil _ _ _ _
    refine T_nil 95 4 ?_
    refine T_loop (ι := Nat × (Nat → Value) × Value) (fun (n, _, _) => n ≤ N) (fun (n, _, vo) => [(1, .pointer (some ⟨g1, 0, none⟩)), (7, .slice (some ⟨g7, 0, none⟩) prods.length prods.length), (10, .slice (some ⟨g10, 0, none⟩) N N), (11, vo), (58, .int .i64 (N : Int)), (59, .int .i64 (n : Int))])
      (fun (n, vs, vo) => [blkO g1 (graV (T : Int) (N : Int) (.slice bp prods.length cp)).cells 24, rowA 58 bitV g7 prods.length may, rowA 46 vals g10 N vs, famP (fun j => j < N) (rowsF prods may T vs n 0), rowO 95 4 vo (rowO' prods may T n).length ((rowO' prods may T n).flatMap clC)]) (fun (n, _, _) => N - n) (0, fun _ => .slice none 0 0, .slice none 0 0) (Nat.zero_le _) (by repeat' (first | exact True.intro | refine And.intro rfl ?_)) rfl ?_
    rintro ⟨n, vs, vo⟩ n1
    dsimp only at n1 ⊢
    by_cases c8 : n < N
    · repeat(first|refine QV QP ?_|refine QZ ?_|refine qcT rfl ?_|refine qcF rfl ?_|refine E_blockX ?_|refine E_blockO rfl ?_|refine qs rfl rfl rfl rfl rfl rfl ?_|((try refine qg rfl rfl rfl ?_);first|refine QV QP ?_|refine QV (rr_load1 TyC.ty rfl (at_blk (i := 0) rfl rfl)) ?_|refine QV (rr_add64 (r := ((T + 1 : Nat) : Int)) rfl rfl (by omega) (by omega) (by omega)) ?_|refine QV QL ?_|refine QV QA ?_|refine QV QlT ?_|refine QV QlF ?_|refine QV QnT ?_|refine QV QnF ?_|refine QV QaA ?_|refine QV QeT ?_|refine QV QeF ?_))
      refine T_loop (ι := Nat × (Nat → Value) × Value) (fun (c, _, _) => c ≤ T + 1) (fun (c, _, vo) => [(1, .pointer (some ⟨g1, 0, none⟩)), (7, .slice (some ⟨g7, 0, none⟩) prods.length prods.length), (10, .slice (some ⟨g10, 0, none⟩) N N), (11, vo), (12, .int .i64 (n : Int)), (58, .int .i64 (N : Int)), (59, .int .i64 (n : Int)), (64, .int .i64 ((T + 1 : Nat) : Int)), (65, .int .i64 (c : Int))])
        (fun (c, vs, vo) => [blkO g1 (graV (T : Int) (N : Int) (.slice bp prods.length cp)).cells 24, rowA 58 bitV g7 prods.length may, rowA 46 vals g10 N vs, famP (fun j => j < N) (rowsF prods may T vs n c), rowO 95 4 vo (colO prods may T n c (rowO' prods may T n)).length ((colO prods may T n c (rowO' prods may T n)).flatMap clC)]) (fun (c, _, _) => T + 1 - c) (0, vs, vo) (Nat.zero_le _) (by repeat' (first | exact True.intro | refine And.intro rfl ?_)) rfl ?_
      rintro ⟨c, vs, vo⟩ cc
      dsimp only at cc ⊢
      by_cases c9 : c < T + 1
      · have hlen0 := colO_len (l := prods) (may := may) (T := T) n c (rowO' prods may T n)
        have hlen1 := rowO_len (l := prods) (may := may) (T := T) n
        have hm1 : c * prods.length ≤ 31 * 40 := Nat.mul_le_mul (by omega) a5
        have hm2 : (T + 1) * prods.length ≤ 31 * 40 := Nat.mul_le_mul (by omega) a5
        have hm3 : n * ((T + 1) * prods.length) ≤ 20 * (31 * 40) := Nat.mul_le_mul (by omega) hm2
        have hr27 : rowO' prods may T (n + 1) = colO prods may T n (T + 1) (rowO' prods may T n) := rfl
        have hc27 : colO prods may T n (c + 1) (rowO' prods may T n) = outL prods may T n c prods.length (colO prods may T n c (rowO' prods may T n)) := rfl
        have hbc : bitC T c < 18446744073709551616 := by
          unfold bitC
          split
          · decide
          · exact Nat.lt_of_le_of_lt (Nat.pow_le_pow_right (by decide) (show c ≤ 30 by omega)) (by decide)
        have hbit := fun w => bit_calls T (N : Int) (.slice bp prods.length cp) c w (by omega) (by omega) ⟨_, _, _, rfl⟩
        generalize colO prods may T n c (rowO' prods may T n) = out0 at *
        repeat(first|refine QV QP ?_|refine QZ ?_|refine qcT rfl ?_|refine qcF rfl ?_|refine E_blockX ?_|refine E_blockO rfl ?_|refine qs rfl rfl rfl rfl rfl rfl ?_|((try refine qg rfl rfl rfl ?_);first|refine QV QP ?_|refine QV (rr_load1 TyC.ty rfl (at_blk (i := 0) rfl rfl)) ?_|refine QV QL ?_|refine QV QA ?_|refine QV QlT ?_|refine QV QlF ?_|refine QV QnT ?_|refine QV QnF ?_|refine QV QaA ?_|refine QV QeT ?_|refine QV QeF ?_))
        refine T_loop (ι := Nat × Value) (fun (k, _) => k ≤ prods.length) (fun (k, vo) => [(1, .pointer (some ⟨g1, 0, none⟩)), (7, .slice (some ⟨g7, 0, none⟩) prods.length prods.length), (10, .slice (some ⟨g10, 0, none⟩) N N), (11, vo), (12, .int .i64 (n : Int)), (13, .int .i64 (c : Int)), (14, .int .i64 (firstL prods may T n c k)), (58, .int .i64 (N : Int)), (59, .int .i64 (n : Int)), (64, .int .i64 ((T + 1 : Nat) : Int)), (65, .int .i64 (c : Int)), (69, .slice bp prods.length cp), (70, .int .i64 prods.length), (71, .int .i64 (k : Int))])
          (fun (k, vo) => [blkO g1 (graV (T : Int) (N : Int) (.slice bp prods.length cp)).cells 24, rowA 58 bitV g7 prods.length may, rowA 46 vals g10 N vs, famP (fun j => j < N) (rowsF prods may T vs n c), rowO 95 4 vo (outL prods may T n c k out0).length ((outL prods may T n c k out0).flatMap clC)]) (fun (k, _) => prods.length - k) (0, vo) (Nat.zero_le _) (by repeat' (first | exact True.intro | refine And.intro rfl ?_)) rfl ?_
        rintro ⟨k, vo⟩ kk
        dsimp only at kk ⊢
        by_cases ck : k < prods.length
        · obtain ⟨b, off, rfl, _, hr⟩ := hrp (by omega)
          obtain ⟨bb, cb, y1, y2, y3⟩ := prod_at hr ck
          have hat : ∀ (L : List Own) (j : Nat) (v : Value), ([.int .i64 prods[k].1, .slice bb prods[k].2.length cb] : List Value)[j]? = some v → At w L ⟨b, off + k * 2 + j, none⟩ v := fun L j v hj => at_old (y1 j v hj)
          have hol := outL_len (l := prods) (may := may) (T := T) n c k out0
          have hf : firstL prods may T n c (k + 1) = if firstL prods may T n c k < 0 then (if candL prods may T n c k = true then (k : Int) else firstL prods may T n c k) else firstL prods may T n c k := rfl
          have ho : outL prods may T n c (k + 1) out0 = if candL prods may T n c k = true then (if firstL prods may T n c k < 0 then outL prods may T n c k out0 else outL prods may T n c k out0 ++ [((n : Int), (c : Int), firstL prods may T n c k, (k : Int))]) else outL prods may T n c k out0 := rfl
          have hcd : candL prods may T n c k = (decide (prods[k].1 = (n : Int)) && !decide ((may k &&& bitC T c) = 0)) := by unfold candL; rw [prodAt_get ck]
          have hand := bits_andN (hmlt k) hbc
          have hfk := first_ge (l := prods) (may := may) (T := T) n c k
          clear y1 y3 hr hrp
          generalize prods[k] = pd at *
          obtain ⟨hd, body⟩ := pd
          dsimp only at *
          generalize hzz : may k &&& bitC T c = z at *
          generalize firstL prods may T n c k = fk at *
          generalize outL prods may T n c k out0 = ok at *
          repeat(first|refine QV QP ?_|refine QZ ?_|refine qcT rfl ?_|refine qcF rfl ?_|refine E_blockX ?_|refine E_blockO rfl ?_|refine qs rfl rfl rfl rfl rfl rfl ?_|((try refine qg rfl rfl rfl ?_);first|refine QV QP ?_|refine QV (rr_idxc Und.eq TyC.ty rfl rfl ck) ?_|refine QV (rr_loadN TyC.ty rfl rfl (hat _)) ?_|refine QV QL ?_|refine QV QA ?_|refine QV QlT ?_|refine QV QlF ?_|refine QV QnT ?_|refine QV QnF ?_|refine QV QaA ?_|refine QV QeT ?_|refine QV QeF ?_))
          refine TL_new rfl fun g16 => ?_
          repeat(first|refine QV QP ?_|refine QZ ?_|refine qcT rfl ?_|refine qcF rfl ?_|refine E_blockX ?_|refine E_blockO rfl ?_|refine qs rfl rfl rfl rfl rfl rfl ?_|((try refine qg rfl rfl rfl ?_);first|refine QV QP ?_|refine QV QL ?_|refine QV QA ?_|refine QV QlT ?_|refine QV QlF ?_|refine QV QnT ?_|refine QV QnF ?_|refine QV QaA ?_|refine QV QeT ?_|refine QV QeF ?_))
          refine TL_storeB (i := 5) rfl rfl rfl rfl rfl rfl ?_
          conv=>arg 8;simp only[zA,zB,zC,zD,zE,zF,zG,zH,zI,rowS,ret,id_eq]
          repeat(first|refine QV QP ?_|refine QZ ?_|refine qcT rfl ?_|refine qcF rfl ?_|refine E_blockX ?_|refine E_blockO rfl ?_|refine qs rfl rfl rfl rfl rfl rfl ?_|((try refine qg rfl rfl rfl ?_);first|refine QV QP ?_|refine QV QL ?_|refine QV QA ?_|refine QV QlT ?_|refine QV QlF ?_|refine QV QnT ?_|refine QV QnF ?_|refine QV QaA ?_|refine QV QeT ?_|refine QV QeF ?_))
          refine T_ord ([blkO g1 (graV (T : Int) (N : Int) (.slice (some ⟨b, off, none⟩) prods.length cp)).cells 24, rowA 58 bitV g7 prods.length may, blkO g16 #[.int .i64 hd, .slice bb body.length cb] 53]) (.calm 0 (.calm 1 (.calm 2 (.calm 3 (.calm 4 (.calm 5 (.calm 6 (.calm 7 (.calm 8 (.calm 9 (.calm 10 (.calm 11 (.calm 12 (.calm 13 (.calm 14 (.calm 15 (.done))))))))))))))))) (sub_pick [0, 1, 5] (by decide) rfl) (by kernel_rfl) (by kernel_rfl) (by intro c a d v w h; cases d <;> exact h) ?_
          by_cases e1 : hd = (n : Int)
          · by_cases e2 : z = 0
            · rw [decide_eq_true e1, decide_eq_true e2] at hcd
              rw [hcd] at hf ho
              simp only [Bool.not_true, Bool.and_false, Bool.false_eq_true, if_false, ite_self] at hf ho
              repeat(first|((first|refine TW_plain rfl rfl ?_|refine TW_gmet rfl rfl rfl rfl ?_);first|refine QW QP ?_|refine QW (rr_load1 TyC.ty rfl (at_blk (i := 2) rfl rfl)) ?_|refine QW (rr_idx1 Und.eq TyC.ty rfl rfl ck) ?_|refine QW (rr_load1 TyC.ty rfl (at_rowA (i := 1) rfl ck)) ?_|refine QW (rr_loadB (i := 0) TyC.ty rfl rfl rfl) ?_|refine QW QL ?_|refine QW QA ?_|refine QW QlT ?_|refine QW QlF ?_|refine QW QnT ?_|refine QW QnF ?_|refine QW QaA ?_|refine QW QeT ?_|refine QW QeF ?_)|refine TW_skip rfl rfl rfl rfl rfl rfl rfl ?_|refine TW_done ?_)
              refine TW_gcall rfl (he2 EntersC.en rfl rfl rfl) (fun w hm => hbit _) rfl rfl rfl rfl rfl ?_
              repeat(first|((first|refine TW_plain rfl rfl ?_|refine TW_gmet rfl rfl rfl rfl ?_);first|refine QW QP ?_|refine QW QL ?_|refine QW QA ?_|refine QW QlT ?_|refine QW QlF ?_|refine QW QnT ?_|refine QW QnF ?_|refine QW QaA ?_|refine QW (rr_and rfl rfl hand) ?_|refine QW QeT ?_|refine QW QeF ?_)|refine TW_skip rfl rfl rfl rfl rfl rfl rfl ?_|refine TW_done ?_)
              repeat(first|refine QV QP ?_|refine QZ ?_|refine qcT rfl ?_|refine qcF rfl ?_|refine E_blockX ?_|refine E_blockO rfl ?_|refine qs rfl rfl rfl rfl rfl rfl ?_|((try refine qg rfl rfl rfl ?_);first|refine QV QP ?_|refine QV QL ?_|refine QV QA ?_|refine QV QlT ?_|refine QV QlF ?_|refine QV QnT ?_|refine QV QnF ?_|refine QV QaA ?_|refine QV QeT ?_|refine QV QeF ?_))
              refine E_pick [0, 1, 2, 3, 4] (by decide) rfl ?_
              exact E_round (k + 1, vo) (by show k + 1 ≤ prods.length; omega) (by show prods.length - (k + 1) < prods.length - k; omega) (by dsimp only; rw [hf]; repeat' (first | exact True.intro | refine And.intro rfl ?_)) (by dsimp only; rw [ho]; rfl)
            · rw [decide_eq_true e1, decide_eq_false e2] at hcd
              rw [hcd] at hf ho
              simp only [Bool.not_false, Bool.and_true, if_true] at hf ho
              repeat(first|((first|refine TW_plain rfl rfl ?_|refine TW_gmet rfl rfl rfl rfl ?_);first|refine QW QP ?_|refine QW (rr_load1 TyC.ty rfl (at_blk (i := 2) rfl rfl)) ?_|refine QW (rr_idx1 Und.eq TyC.ty rfl rfl ck) ?_|refine QW (rr_load1 TyC.ty rfl (at_rowA (i := 1) rfl ck)) ?_|refine QW (rr_loadB (i := 0) TyC.ty rfl rfl rfl) ?_|refine QW QL ?_|refine QW QA ?_|refine QW QlT ?_|refine QW QlF ?_|refine QW QnT ?_|refine QW QnF ?_|refine QW QaA ?_|refine QW QeT ?_|refine QW QeF ?_)|refine TW_skip rfl rfl rfl rfl rfl rfl rfl ?_|refine TW_done ?_)
              refine TW_gcall rfl (he2 EntersC.en rfl rfl rfl) (fun w hm => hbit _) rfl rfl rfl rfl rfl ?_
              repeat(first|((first|refine TW_plain rfl rfl ?_|refine TW_gmet rfl rfl rfl rfl ?_);first|refine QW QP ?_|refine QW QL ?_|refine QW QA ?_|refine QW QlT ?_|refine QW QlF ?_|refine QW QnT ?_|refine QW QnF ?_|refine QW QaA ?_|refine QW (rr_and rfl rfl hand) ?_|refine QW QeT ?_|refine QW QeF ?_)|refine TW_skip rfl rfl rfl rfl rfl rfl rfl ?_|refine TW_done ?_)
              by_cases e3 : fk < 0
              · rw [if_pos e3] at hf ho
                repeat(first|refine QV QP ?_|refine QZ ?_|refine qcT rfl ?_|refine qcF rfl ?_|refine E_blockX ?_|refine E_blockO rfl ?_|refine qs rfl rfl rfl rfl rfl rfl ?_|((try refine qg rfl rfl rfl ?_);first|refine QV QP ?_|refine QV QL ?_|refine QV QA ?_|refine QV QlT ?_|refine QV QlF ?_|refine QV QnT ?_|refine QV QnF ?_|refine QV QaA ?_|refine QV QeT ?_|refine QV QeF ?_))
                refine E_pick [0, 1, 2, 3, 4] (by decide) rfl ?_
                exact E_round (k + 1, vo) (by show k + 1 ≤ prods.length; omega) (by show prods.length - (k + 1) < prods.length - k; omega) (by dsimp only; rw [hf]; repeat' (first | exact True.intro | refine And.intro rfl ?_)) (by dsimp only; rw [ho]; rfl)
              · rw [if_neg e3] at hf ho
                repeat(first|refine QV QP ?_|refine QZ ?_|refine qcT rfl ?_|refine qcF rfl ?_|refine E_blockX ?_|refine E_blockO rfl ?_|refine qs rfl rfl rfl rfl rfl rfl ?_|((try refine qg rfl rfl rfl ?_);first|refine QV QP ?_|refine QV (rr_build rfl (build_cl _ _ _ _)) ?_|refine QV QL ?_|refine QV QA ?_|refine QV QlT ?_|refine QV QlF ?_|refine QV QnT ?_|refine QV QnF ?_|refine QV QaA ?_|refine QV QeT ?_|refine QV QeF ?_))
                refine TL_pushN (i := 4) rfl rfl rfl rfl rfl rfl rfl (fun z h => by cases h; rfl) (by omega) (by omega) rfl fun z' v2 => ?_
                conv=>arg 8;simp only[zA,zB,zC,zD,zE,zF,zG,zH,zI,rowS,ret,id_eq]
                repeat(first|refine QV QP ?_|refine QZ ?_|refine qcT rfl ?_|refine qcF rfl ?_|refine E_blockX ?_|refine E_blockO rfl ?_|refine qs rfl rfl rfl rfl rfl rfl ?_|((try refine qg rfl rfl rfl ?_);first|refine QV QP ?_|refine QV QL ?_|refine QV QA ?_|refine QV QlT ?_|refine QV QlF ?_|refine QV QnT ?_|refine QV QnF ?_|refine QV QaA ?_|refine QV QeT ?_|refine QV QeF ?_))
                refine E_pick [0, 1, 2, 3, 4] (by decide) rfl ?_
                exact E_round (k + 1, v2) (by show k + 1 ≤ prods.length; omega) (by show prods.length - (k + 1) < prods.length - k; omega) (by dsimp only; rw [hf]; repeat' (first | exact True.intro | refine And.intro rfl ?_)) (by dsimp only; rw [ho, List.flatMap_append, List.length_append]; rfl)
          · rw [decide_eq_false e1] at hcd
            rw [hcd] at hf ho
            simp only [Bool.false_and, Bool.false_eq_true, if_false, ite_self] at hf ho
            repeat(first|((first|refine TW_plain rfl rfl ?_|refine TW_gmet rfl rfl rfl rfl ?_);first|refine QW QP ?_|refine QW (rr_load1 TyC.ty rfl (at_blk (i := 2) rfl rfl)) ?_|refine QW QL ?_|refine QW QA ?_|refine QW QlT ?_|refine QW QlF ?_|refine QW QnT ?_|refine QW QnF ?_|refine QW QaA ?_|refine QW QeT ?_|refine QW QeF ?_)|refine TW_skip rfl rfl rfl rfl rfl rfl rfl ?_|refine TW_done ?_)
            repeat(first|refine QV QP ?_|refine QZ ?_|refine qcT rfl ?_|refine qcF rfl ?_|refine E_blockX ?_|refine E_blockO rfl ?_|refine qs rfl rfl rfl rfl rfl rfl ?_|((try refine qg rfl rfl rfl ?_);first|refine QV QP ?_|refine QV QL ?_|refine QV QA ?_|refine QV QlT ?_|refine QV QlF ?_|refine QV QnT ?_|refine QV QnF ?_|refine QV QaA ?_|refine QV QeT ?_|refine QV QeF ?_))
            refine E_pick [0, 1, 2, 3, 4] (by decide) rfl ?_
            exact E_round (k + 1, vo) (by show k + 1 ≤ prods.length; omega) (by show prods.length - (k + 1) < prods.length - k; omega) (by dsimp only; rw [hf]; repeat' (first | exact True.intro | refine And.intro rfl ?_)) (by dsimp only; rw [ho]; rfl)
        · obtain rfl : k = prods.length := by omega
          rw [← hc27]
          have hra : firstL prods may T n c prods.length = llL.rowAt prods may T n c := rfl
          rw [hra]
          clear hc27 hr27 hra
          have hcn : rowsF prods may T vs n c n = rowO 3 1 (vs n) c ((tabA c (llL.rowAt prods may T n)).map intV) := by
            unfold rowsF cntL
            rw [if_neg (Nat.lt_irrefl n), if_pos rfl]
          repeat(first|refine QV QP ?_|refine QZ ?_|refine qcT rfl ?_|refine qcF rfl ?_|refine E_blockX ?_|refine E_blockO rfl ?_|refine qs rfl rfl rfl rfl rfl rfl ?_|((try refine qg rfl rfl rfl ?_);first|refine QV QP ?_|refine QV (rr_idx1 Und.eq TyC.ty rfl rfl c8) ?_|refine QV (rr_load1 TyC.ty rfl (at_rowA (i := 2) rfl c8)) ?_|refine QV QL ?_|refine QV QA ?_|refine QV QlT ?_|refine QV QlF ?_|refine QV QnT ?_|refine QV QnF ?_|refine QV QaA ?_|refine QV QeT ?_|refine QV QeF ?_))
          refine TL_take (q := 3) n rfl c8 ?_
          rw [hcn]
          conv=>arg 8;simp only[zA,zB,zC,zD,zE,zF,zG,zH,zI,rowS,ret,id_eq]
          refine TL_litV [.int .i64 (llL.rowAt prods may T n c)] rfl rfl rfl (by intro v hv; simp at hv; subst hv; rfl) rfl rfl fun g112 => ?_
          conv=>arg 8;simp only[zA,zB,zC,zD,zE,zF,zG,zH,zI,rowS,ret,id_eq]
          refine TL_app11 (i := 5) (q := 6) rfl rfl rfl rfl rfl rfl (by omega) (by omega) rfl fun v3 => ?_
          conv=>arg 8;simp only[zA,zB,zC,zD,zE,zF,zG,zH,zI,rowS,ret,id_eq]
          refine TL_slv (i := 5) rfl fun hv1 hv2 => ?_
          repeat(first|refine QV QP ?_|refine QZ ?_|refine qcT rfl ?_|refine qcF rfl ?_|refine E_blockX ?_|refine E_blockO rfl ?_|refine qs rfl rfl rfl rfl rfl rfl ?_|((try refine qg rfl rfl rfl ?_);first|refine QV QP ?_|refine QV (rr_idx1 Und.eq TyC.ty rfl rfl c8) ?_|refine QV QL ?_|refine QV QA ?_|refine QV QlT ?_|refine QV QlF ?_|refine QV QnT ?_|refine QV QnF ?_|refine QV QaA ?_|refine QV QeT ?_|refine QV QeF ?_))
          refine TL_storeA (i := 2) (v := v3) (fun j => if j = n then v3 else vs j) TyC.ty rfl rfl rfl hv1 hv2 c8 (fun j _ => rfl) ?_
          conv=>arg 8;simp only[zA,zB,zC,zD,zE,zF,zG,zH,zI,rowS,ret,id_eq]
          refine TL_put (D' := fun j => j < N) (f' := rowsF prods may T (fun j => if j = n then v3 else vs j) n (c + 1)) n 3 5 [0, 1, 2, 4] (by decide) rfl rfl rfl (fun h => h.2 rfl) (fun j hj => by
            by_cases e : j = n
            · exact .inr e
            · exact .inl ⟨hj, e⟩) (fun j hj => by
            by_cases e : j = n
            · subst e
              rw [upd_eq]
              unfold rowsF cntL
              rw [if_neg (Nat.lt_irrefl j), if_pos rfl]
              dsimp only
              rw [if_pos rfl]
              congr 1
              unfold tabA
              rw [List.range_succ, List.map_append, List.map_append]; rfl
            · rw [upd_ne e]
              have : cntL T n (c + 1) j = cntL T n c j := by unfold cntL; rw [if_neg e, if_neg e]
              unfold rowsF
              rw [this]
              dsimp only
              rw [if_neg e]) ?_
          conv=>arg 8;simp only[zA,zB,zC,zD,zE,zF,zG,zH,zI,rowS,ret,id_eq]
          refine TL_pick [0, 1, 2, 4, 3] (by decide) rfl ?_
          repeat(first|refine QV QP ?_|refine QZ ?_|refine qcT rfl ?_|refine qcF rfl ?_|refine E_blockX ?_|refine E_blockO rfl ?_|refine qs rfl rfl rfl rfl rfl rfl ?_|((try refine qg rfl rfl rfl ?_);first|refine QV QP ?_|refine QV QL ?_|refine QV QA ?_|refine QV QlT ?_|refine QV QlF ?_|refine QV QnT ?_|refine QV QnF ?_|refine QV QaA ?_|refine QV QeT ?_|refine QV QeF ?_))
          exact E_round (c + 1, fun j => if j = n then v3 else vs j, vo) (by show c + 1 ≤ T + 1; omega) (by show T + 1 - (c + 1) < T + 1 - c; omega) (by repeat' (first | exact True.intro | refine And.intro rfl ?_)) rfl
      · obtain rfl : c = T + 1 := by omega
        have hfun : rowsF prods may T vs n (T + 1) = rowsF prods may T vs (n + 1) 0 := funext fun j => by
          have : cntL T n (T + 1) j = cntL T (n + 1) 0 j := by
            unfold cntL
            by_cases e : j < n
            · rw [if_pos e, if_pos (by omega)]
            · rw [if_neg e]
              by_cases e2 : j = n
              · rw [if_pos e2, if_pos (by omega)]
              · rw [if_neg e2, if_neg (by omega), ite_self]
          unfold rowsF
          rw [this]
        repeat(first|refine QV QP ?_|refine QZ ?_|refine qcT rfl ?_|refine qcF rfl ?_|refine E_blockX ?_|refine E_blockO rfl ?_|refine qs rfl rfl rfl rfl rfl rfl ?_|((try refine qg rfl rfl rfl ?_);first|refine QV QP ?_|refine QV QL ?_|refine QV QA ?_|refine QV QlT ?_|refine QV QlF ?_|refine QV QnT ?_|refine QV QnF ?_|refine QV QaA ?_|refine QV QeT ?_|refine QV QeF ?_))
        exact E_round (n + 1, vs, vo) (by show n + 1 ≤ N; omega) (by show N - (n + 1) < N - n; omega) (by repeat' (first | exact True.intro | refine And.intro rfl ?_)) (by rw [hfun]; rfl)
    · obtain rfl : n = N := by omega
      repeat(first|refine QV QP ?_|refine QZ ?_|refine qcT rfl ?_|refine qcF rfl ?_|refine E_blockX ?_|refine E_blockO rfl ?_|refine qs rfl rfl rfl rfl rfl rfl ?_|((try refine qg rfl rfl rfl ?_);first|refine QV QP ?_|refine QV QL ?_|refine QV QA ?_|refine QV QlT ?_|refine QV QlF ?_|refine QV QnT ?_|refine QV QnF ?_|refine QV QaA ?_|refine QV QeT ?_|refine QV QeF ?_))
      exact E_ret3 rfl rfl rfl rfl fun w hm => hm.meets (S := makeS n T prods may) (g10, vs, vo) trivial [2, 3, 4] (by decide) rfl
end Go.Proofs.Ytdbghmgajmlkmaa.eng

/- LrA -/
namespace Go.Proofs.Ytdbghmgajmlkmaa.eng
open Go.RowKit kit mix gramL treeL factsL itemL smallL
def actC (x : itemL.Act) : List Value := [.int .i64 x.1, .int .i64 x.2]
theorem actC_len (x : itemL.Act) : (actC x).length = 2 := rfl
/-- acts so far: t terminals, then some items -/
def actsK (l : List gramL.Prod) (T : Nat) (nx : List Int) (t : Nat) (s : List itemL.Item) (c : Nat) : List itemL.Act := (if c < t ∧ 0 ≤ nx.getD c 0 then [(1, nx.getD c 0)] else []) ++ s.filterMap (actOf l c)
theorem actsK_all {l : List gramL.Prod} {T : Nat} {nx : List Int} {s : List itemL.Item} {c : Nat} : actsK l T nx T s c = actsI l T s nx c := rfl
def actF (vs : Nat → Value) (A : Nat → List itemL.Act) (j : Nat) : Own := rowO 72 2 (vs j) (A j).length ((A j).flatMap actC)
def actsS (T : Nat) (A : Nat → List itemL.Act) : Spec (Nat × (Nat → Value)) := ⟨fun _ => True, fun x => .slice (some ⟨x.1, 0, none⟩) (T + 1) (T + 1), fun x => [rowA 70 vals x.1 (T + 1) x.2, famP (fun j => j < T + 1) (actF x.2 A)]⟩
theorem build_act1 (n : Int) (w : World) : (Instr.build 72 #[(0, .int .i64 1), (1, .int .i64 n)]).run Try.prog w = .ok (.agg (actC (1, n)).toArray) w := by kernel_rfl
theorem build_act2 (n : Int) (w : World) : (Instr.build 72 #[(0, .int .i64 2), (1, .int .i64 n)]).run Try.prog w = .ok (.agg (actC (2, n)).toArray) w := by kernel_rfl
theorem build_act3 (w : World) : (Instr.build 72 #[(0, .int .i64 3)]).run Try.prog w = .ok (.agg (actC (3, 0)).toArray) w := by kernel_rfl
theorem actsK_len {l : List gramL.Prod} {T : Nat} {nx : List Int} {t : Nat} {s : List itemL.Item} {c : Nat} : (actsK l T nx t s c).length ≤ 1 + s.length := by
  unfold actsK
  rw [List.length_append]
  have := List.length_filterMap_le (actOf l c) s
  split
  · rw [List.length_singleton]; omega
  · rw [List.length_nil]; omega
set_option maxHeartbeats 8000000 in
theorem lrActs_calls (v : Value) (g : Gram) (T : Nat) (hTt : g.terms = (T : Int)) (hT : T ≤ 30) (bS oS lS cS bN oN lN cN n : Nat) (vs1 vn1 : Value) (s : List itemL.Item) (nx : List Int) (w : World) (hG : GraR (fun k => k < w.heap.size) w v g) (hpl : g.prods.length ≤ 40) (hnS : n < lS) (hcS : w.cell? ⟨bS, oS + n, none⟩ = some vs1) (hs1 : Sl w vs1 s.length (s.flatMap itC)) (hnN : n < lN) (hcN : w.cell? ⟨bN, oN + n, none⟩ = some vn1) (hn1 : Sl w vn1 nx.length (nx.map (Value.int .i64))) (hnl : T ≤ nx.length) (hr : ∀ it ∈ s, RightI g.prods T it) (hsl : s.length ≤ 20000) (hn0 : n ≤ 1000000) :
    Calls Try.prog 21 #[v, .agg #[.slice (some ⟨bS, oS, none⟩) lS cS, .slice (some ⟨bN, oN, none⟩) lN cN], .int .i64 (n : Int)] w (Meets (actsS T (actsI g.prods T s nx)) w) := by
  obtain ⟨vp, rfl, hp, -, -⟩ := hG
  obtain ⟨bp, cp, rfl, hcp, hmp, hrp⟩ := hp
  obtain ⟨bs, cs, rfl, -, hmS, hrS⟩ := hs1
  obtain ⟨bn, cn, rfl, -, hmN, hrN⟩ := hn1
  unfold maxLen at hmS hmN
  rw [hTt]
  have hb1 := build_act1
  have hb2 := build_act2
  have hb3 := build_act3
  refine enter (args := [graV (T : Int) g.nons (.slice bp g.prods.length cp), .agg #[.slice (some ⟨bS, oS, none⟩) lS cS, .slice (some ⟨bN, oN, none⟩) lN cN], .int .i64 (n : Int)]) (n := 113) Try.func21 rfl rfl rfl ?_
  refine T_seq (T_region (TL_box rfl rfl rfl fun g3 => ?_))
  conv=>arg 8;simp only[zA,zB,zC,zD,zE,zF,zG,zH,zI,rowS,ret,id_eq]
  refine TL_box rfl rfl rfl fun g4 => ?_
  conv=>arg 8;simp only[zA,zB,zC,zD,zE,zF,zG,zH,zI,rowS,ret,id_eq]
  repeat(first|refine QV QP ?_|refine QZ ?_|refine qcT rfl ?_|refine qcF rfl ?_|refine E_blockX ?_|refine E_blockO rfl ?_|refine qs rfl rfl rfl rfl rfl rfl ?_|((try refine qg rfl rfl rfl ?_);first|refine QV QP ?_|refine QV (rr_load1 (v := .int .i64 (T : Int)) TyC.ty rfl (at_blk (i := 0) rfl rfl)) ?_|refine QV (rr_add64 (r := ((T + 1 : Nat) : Int)) rfl rfl (by omega) (by omega) (by omega)) ?_|refine QV QL ?_|refine QV QA ?_|refine QV QlT ?_|refine QV QlF ?_|refine QV QhT ?_|refine QV QhF ?_|refine QV QeT ?_|refine QV QeF ?_|refine QV QaA ?_))
  refine TL_makeA (m := T + 1) vals (.slice none 0 0) rfl rfl (by omega) (by omega) rfl fun g7 => ?_
  conv=>arg 8;simp only[zA,zB,zC,zD,zE,zF,zG,zH,zI,rowS,ret,id_eq]
  repeat(first|refine QV QP ?_|refine QZ ?_|refine qcT rfl ?_|refine qcF rfl ?_|refine E_blockX ?_|refine E_blockO rfl ?_|refine qs rfl rfl rfl rfl rfl rfl ?_|((try refine qg rfl rfl rfl ?_);first|refine QV QP ?_|refine QV (rr_load1 (v := .int .i64 (T : Int)) TyC.ty rfl (at_blk (i := 0) rfl rfl)) ?_|refine QV QL ?_|refine QV QA ?_|refine QV QlT ?_|refine QV QlF ?_|refine QV QhT ?_|refine QV QhF ?_|refine QV QeT ?_|refine QV QeF ?_|refine QV QaA ?_))
  refine T_extra (famP (fun j => j < T + 1) (actF (fun _ => .slice none 0 0) (actsK g.prods T nx 0 []))) (fun k hk => hk.elim (fun h => by cases h) fun ⟨i, hi, h⟩ => h.elim (fun h => by cases h) id) (fun w => ⟨fun i hi => ?_, fun i j _ _ _ k h => h.elim (fun h => by cases h) False.elim⟩) ?_
  · unfold actF actsK
    rw [if_neg (by omega)]
    exact World.ownsRow_nil _ _ _ _
  conv => arg 7; simp only [zA, zB, zC, zD, zE, zF, zG, zH, zI, rowS, ret, id_eq]
  refine T_loop (ι := Nat × (Nat → Value)) (fun (t, _) => t ≤ T) (fun (t, _) => [(2, .int .i64 (n : Int)), (3, .pointer (some ⟨g3, 0, none⟩)), (4, .pointer (some ⟨g4, 0, none⟩)), (7, .slice (some ⟨g7, 0, none⟩) (T + 1) (T + 1)), (17, .int .i64 (T : Int)), (18, .int .i64 (t : Int))])
    (fun (t, vs) => [blkO g3 (graV (T : Int) g.nons (.slice bp g.prods.length cp)).cells 24, blkO g4 (Value.agg #[.slice (some ⟨bS, oS, none⟩) lS cS, .slice (some ⟨bN, oN, none⟩) lN cN]).cells 67, rowA 70 vals g7 (T + 1) vs, famP (fun j => j < T + 1) (actF vs (actsK g.prods T nx t []))]) (fun (t, _) => T - t) (0, fun _ => .slice none 0 0) (Nat.zero_le _) (by repeat' (first | exact True.intro | refine And.intro rfl ?_)) rfl ?_
  rintro ⟨t, vs⟩ i1
  dsimp only at i1 ⊢
  by_cases c1 : t < T
  · obtain ⟨b, off, rfl, hrd⟩ := hrN (by omega)
    have hny : (nx.map (Value.int .i64))[t]? = some (.int .i64 (nx.getD t 0)) := by
      rw [List.getElem?_map, List.getD_eq_getElem?_getD, List.getElem?_eq_getElem (by omega)]; rfl
    have hat := fun (L : List Own) => at_rd (W := w) (L := L) hrd hny
    have htl : t < nx.length := by omega
    have hoth : ∀ j, j ≠ t → actsK g.prods T nx (t + 1) [] j = actsK g.prods T nx t [] j := fun j hj => by
      unfold actsK
      have : (j < t + 1 ∧ 0 ≤ nx.getD j 0) ↔ (j < t ∧ 0 ≤ nx.getD j 0) := by constructor <;> (rintro ⟨h1, h2⟩; exact ⟨by omega, h2⟩)
      simp only [this]
    have hmine : actsK g.prods T nx (t + 1) [] t = if 0 ≤ nx.getD t 0 then [(1, nx.getD t 0)] else [] := by
      unfold actsK
      by_cases c : 0 ≤ nx.getD t 0
      · rw [if_pos ⟨Nat.lt_succ_self t, c⟩, if_pos c]; rfl
      · rw [if_neg (fun h => c h.2), if_neg c]; rfl
    have hmine0 : actsK g.prods T nx t [] t = [] := by unfold actsK; rw [if_neg (fun h => Nat.lt_irrefl t h.1)]; rfl
    generalize nx.getD t 0 = y at *
    repeat(first|refine QV QP ?_|refine QZ ?_|refine qcT rfl ?_|refine qcF rfl ?_|refine E_blockX ?_|refine E_blockO rfl ?_|refine qs rfl rfl rfl rfl rfl rfl ?_|((try refine qg rfl rfl rfl ?_);first|refine QV QP ?_|refine QV (rr_load1 (v := .slice (some ⟨bN, oN, none⟩) lN cN) TyC.ty rfl (at_blk (i := 1) rfl rfl)) ?_|refine QV (rr_idx1 Und.eq TyC.ty rfl rfl hnN) ?_|refine QV (rr_load1 (v := .slice (some ⟨b, off, none⟩) nx.length cn) TyC.ty rfl (at_old hcN)) ?_|refine QV (rr_idx1 Und.eq TyC.ty rfl rfl htl) ?_|refine QV (rr_load1 (v := .int .i64 y) TyC.ty rfl (hat _)) ?_|refine QV QL ?_|refine QV QA ?_|refine QV QlT ?_|refine QV QlF ?_|refine QV QhT ?_|refine QV QhF ?_|refine QV QeT ?_|refine QV QeF ?_|refine QV QaA ?_))
    by_cases c2 : 0 ≤ y
    · rw [if_pos c2] at hmine
      repeat(first|refine QV QP ?_|refine QZ ?_|refine qcT rfl ?_|refine qcF rfl ?_|refine E_blockX ?_|refine E_blockO rfl ?_|refine qs rfl rfl rfl rfl rfl rfl ?_|((try refine qg rfl rfl rfl ?_);first|refine QV QP ?_|refine QV (rr_geq (b := true) rfl rfl (decide_eq_true c2)) ?_|refine QV (rr_idx1 Und.eq TyC.ty rfl rfl (show t < T + 1 by omega)) ?_|refine QV (rr_load1 TyC.ty rfl (at_rowA (i := 2) rfl (show t < T + 1 by omega))) ?_|refine QV (rr_build rfl (hb1 _)) ?_|refine QV QL ?_|refine QV QA ?_|refine QV QlT ?_|refine QV QlF ?_|refine QV QhT ?_|refine QV QhF ?_|refine QV QeT ?_|refine QV QeF ?_|refine QV QaA ?_))
      refine TL_take (q := 3) t rfl (show t < T + 1 by omega) ?_
      have hFt : actF vs (actsK g.prods T nx t []) t = rowO 72 2 (vs t) 0 [] := by unfold actF; rw [hmine0]; rfl
      rw [hFt]
      conv=>arg 8;simp only[zA,zB,zC,zD,zE,zF,zG,zH,zI,rowS,ret,id_eq]
      refine TL_pushN (i := 4) rfl rfl rfl rfl rfl rfl rfl (fun z h => by cases h; rfl) (by omega) (by omega) rfl fun z v3 => ?_
      conv=>arg 8;simp only[zA,zB,zC,zD,zE,zF,zG,zH,zI,rowS,ret,id_eq]
      repeat(first|refine QV QP ?_|refine QZ ?_|refine qcT rfl ?_|refine qcF rfl ?_|refine E_blockX ?_|refine E_blockO rfl ?_|refine qs rfl rfl rfl rfl rfl rfl ?_|((try refine qg rfl rfl rfl ?_);first|refine QV QP ?_|refine QV (rr_idx1 Und.eq TyC.ty rfl rfl (show t < T + 1 by omega)) ?_|refine QV QL ?_|refine QV QA ?_|refine QV QlT ?_|refine QV QlF ?_|refine QV QhT ?_|refine QV QhF ?_|refine QV QeT ?_|refine QV QeF ?_|refine QV QaA ?_))
      refine TL_slv (i := 4) rfl fun hv1 hv2 => ?_
      refine TL_storeA (i := 2) (v := v3) (fun j => if j = t then v3 else vs j) TyC.ty rfl rfl rfl hv1 hv2 (show t < T + 1 by omega) (fun j _ => rfl) ?_
      conv=>arg 8;simp only[zA,zB,zC,zD,zE,zF,zG,zH,zI,rowS,ret,id_eq]
      refine TL_put (D' := fun j => j < T + 1) (f' := actF (fun j => if j = t then v3 else vs j) (actsK g.prods T nx (t + 1) [])) t 3 4 [0, 1, 2] (by decide) rfl rfl rfl (fun h => h.2 rfl) (fun j hj => by
        by_cases e : j = t
        · exact .inr e
        · exact .inl ⟨hj, e⟩) (fun j hj => by
        by_cases e : j = t
        · subst e
          rw [upd_eq]
          unfold actF
          dsimp only
          rw [hmine, if_pos rfl]
          rfl
        · rw [upd_ne e]
          unfold actF
          dsimp only
          rw [hoth j e, if_neg e]) ?_
      conv=>arg 8;simp only[zA,zB,zC,zD,zE,zF,zG,zH,zI,rowS,ret,id_eq]
      repeat(first|refine QV QP ?_|refine QZ ?_|refine qcT rfl ?_|refine qcF rfl ?_|refine E_blockX ?_|refine E_blockO rfl ?_|refine qs rfl rfl rfl rfl rfl rfl ?_|((try refine qg rfl rfl rfl ?_);first|refine QV QP ?_|refine QV QL ?_|refine QV QA ?_|refine QV QlT ?_|refine QV QlF ?_|refine QV QhT ?_|refine QV QhF ?_|refine QV QeT ?_|refine QV QeF ?_|refine QV QaA ?_))
      exact E_round (t + 1, fun j => if j = t then v3 else vs j) (by show t + 1 ≤ T; omega) (by show T - (t + 1) < T - t; omega) (by repeat' (first | exact True.intro | refine And.intro rfl ?_)) rfl
    · rw [if_neg c2] at hmine
      have hsame : actsK g.prods T nx (t + 1) [] = actsK g.prods T nx t [] := funext fun j => by
        by_cases e : j = t
        · subst e; rw [hmine, hmine0]
        · exact hoth j e
      repeat(first|refine QV QP ?_|refine QZ ?_|refine qcT rfl ?_|refine qcF rfl ?_|refine E_blockX ?_|refine E_blockO rfl ?_|refine qs rfl rfl rfl rfl rfl rfl ?_|((try refine qg rfl rfl rfl ?_);first|refine QV QP ?_|refine QV (rr_geq (b := false) rfl rfl (decide_eq_false c2)) ?_|refine QV QL ?_|refine QV QA ?_|refine QV QlT ?_|refine QV QlF ?_|refine QV QhT ?_|refine QV QhF ?_|refine QV QeT ?_|refine QV QeF ?_|refine QV QaA ?_))
      exact E_round (t + 1, vs) (by show t + 1 ≤ T; omega) (by show T - (t + 1) < T - t; omega) (by repeat' (first | exact True.intro | refine And.intro rfl ?_)) (by dsimp only; rw [hsame])
  obtain rfl : t = T := by omega
  repeat(first|refine QV QP ?_|refine QZ ?_|refine qcT rfl ?_|refine qcF rfl ?_|refine E_blockX ?_|refine E_blockO rfl ?_|refine qs rfl rfl rfl rfl rfl rfl ?_|((try refine qg rfl rfl rfl ?_);first|refine QV QP ?_|refine QV (rr_load1 (v := .slice (some ⟨bS, oS, none⟩) lS cS) TyC.ty rfl (at_blk (i := 1) rfl rfl)) ?_|refine QV (rr_idx1 Und.eq TyC.ty rfl rfl hnS) ?_|refine QV (rr_load1 (v := .slice bs s.length cs) TyC.ty rfl (at_old hcS)) ?_|refine QV QL ?_|refine QV QA ?_|refine QV QlT ?_|refine QV QlF ?_|refine QV QhT ?_|refine QV QhF ?_|refine QV QeT ?_|refine QV QeF ?_|refine QV QaA ?_))
  refine T_loop (ι := Nat × (Nat → Value)) (fun (k, _) => k ≤ s.length) (fun (k, _) => [(3, .pointer (some ⟨g3, 0, none⟩)), (7, .slice (some ⟨g7, 0, none⟩) (t + 1) (t + 1)), (47, .slice bs s.length cs), (48, .int .i64 (s.length : Int)), (49, .int .i64 (k : Int))])
    (fun (k, vs) => [blkO g3 (graV (t : Int) g.nons (.slice bp g.prods.length cp)).cells 24, blkO g4 (Value.agg #[.slice (some ⟨bS, oS, none⟩) lS cS, .slice (some ⟨bN, oN, none⟩) lN cN]).cells 67, rowA 70 vals g7 (t + 1) vs, famP (fun j => j < t + 1) (actF vs (actsK g.prods t nx t (s.take k)))]) (fun (k, _) => s.length - k) (0, vs) (Nat.zero_le _) (by repeat' (first | exact True.intro | refine And.intro rfl ?_)) rfl ?_
  rintro ⟨k, vs⟩ j1
  dsimp only at j1 ⊢
  clear hb1
  by_cases c2 : k < s.length
  · obtain ⟨b, off, rfl, hrd⟩ := hrS (by omega)
    have hat := fun (L : List Own) => at_el (L := L) itC_len hrd c2
    have hatA : ∀ (L : List Own) (j : Nat) (u : Value), (itC s[k])[j]? = some u → At (w : Base) L ⟨b, off + k * 3 + j, none⟩ u := hat
    clear hat hrd hrS
    have hxr := hr s[k] (List.getElem_mem c2)
    have htk : s.take (k + 1) = s.take k ++ [s[k]] := List.take_succ_eq_append_getElem c2
    have hall : ∀ c, actsK g.prods t nx t (s.take (k + 1)) c = actsK g.prods t nx t (s.take k) c ++ (match actOf g.prods c s[k] with | some x => [x] | none => []) := fun c => by
      rw [htk]
      unfold actsK
      rw [List.filterMap_append, ← List.append_assoc]
      congr 1
      rw [List.filterMap_cons]
      cases actOf g.prods c s[k] <;> rfl
    have hlen : ∀ c, (actsK g.prods t nx t (s.take k) c).length ≤ 20001 := fun c => Nat.le_trans actsK_len (by rw [List.length_take]; omega)
    generalize hit : s[k] = it at *
    obtain ⟨p, d, lo⟩ := it
    obtain ⟨r1, r2, r3, r4, r5, r6⟩ := hxr
    dsimp only at r1 r2 r3 r4 r5 r6
    obtain ⟨pn, rfl⟩ := Int.eq_ofNat_of_zero_le r1
    obtain ⟨dn, rfl⟩ := Int.eq_ofNat_of_zero_le r3
    obtain ⟨ln, rfl⟩ := Int.eq_ofNat_of_zero_le r5
    have hln : ln < t + 1 := by omega
    have hoth : ∀ j, j ≠ ln → actsK g.prods t nx t (s.take (k + 1)) j = actsK g.prods t nx t (s.take k) j := fun j hj => by
      rw [hall j]
      have : actOf g.prods j ((pn : Int), (dn : Int), (ln : Int)) = none := by
        unfold actOf
        rw [if_pos (by show (ln : Int) ≠ (j : Int); omega)]
      rw [this, List.append_nil]
    have hall2 := hall ln
    unfold actOf at hall2
    rw [if_neg (by show ¬ (ln : Int) ≠ (ln : Int); simp)] at hall2
    dsimp only at hall2
    clear hall htk
    repeat(first|refine QV QP ?_|refine QZ ?_|refine qcT rfl ?_|refine qcF rfl ?_|refine E_blockX ?_|refine E_blockO rfl ?_|refine qs rfl rfl rfl rfl rfl rfl ?_|((try refine qg rfl rfl rfl ?_);first|refine QV QP ?_|refine QV (rr_idxc Und.eq TyC.ty rfl rfl c2) ?_|refine QV (rr_loadN (cs := itC ((pn : Int), (dn : Int), (ln : Int))) TyC.ty rfl rfl (hatA _)) ?_|refine QV QL ?_|refine QV QA ?_|refine QV QlT ?_|refine QV QlF ?_|refine QV QhT ?_|refine QV QhF ?_|refine QV QeT ?_|refine QV QeF ?_|refine QV QaA ?_))
    refine TL_new rfl fun g11 => ?_
    conv=>arg 8;simp only[zA,zB,zC,zD,zE,zF,zG,zH,zI,rowS,ret,id_eq]
    refine TL_storeB (i := 4) (cs' := (itC ((pn : Int), (dn : Int), (ln : Int))).toArray) rfl rfl rfl rfl rfl rfl ?_
    conv=>arg 8;simp only[zA,zB,zC,zD,zE,zF,zG,zH,zI,rowS,ret,id_eq]
    have hFt : actF vs (actsK g.prods t nx t (s.take k)) ln = rowO 72 2 (vs ln) (actsK g.prods t nx t (s.take k) ln).length ((actsK g.prods t nx t (s.take k) ln).flatMap actC) := rfl
    have hll := hlen ln
    by_cases q1 : pn = g.prods.length
    · subst q1
      by_cases q2 : dn = 1
      · subst q2
        have hmine : actsK g.prods t nx t (s.take (k + 1)) ln = actsK g.prods t nx t (s.take k) ln ++ [(3, 0)] := by
          rw [if_pos ⟨rfl, rfl⟩] at hall2; exact hall2
        repeat(first|refine QV QP ?_|refine QZ ?_|refine qcT rfl ?_|refine qcF rfl ?_|refine E_blockX ?_|refine E_blockO rfl ?_|refine qs rfl rfl rfl rfl rfl rfl ?_|((try refine qg rfl rfl rfl ?_);first|refine QV QP ?_|refine QV (rr_load1 (v := .int .i64 (g.prods.length : Int)) TyC.ty rfl (at_blk (i := 4) rfl rfl)) ?_|refine QV (rr_load1 (v := .slice bp g.prods.length cp) TyC.ty rfl (at_blk (i := 0) rfl rfl)) ?_|refine QV (rr_load1 (v := .int .i64 1) TyC.ty rfl (at_blk (i := 4) rfl rfl)) ?_|refine QV QL ?_|refine QV QA ?_|refine QV QlT ?_|refine QV QlF ?_|refine QV QhT ?_|refine QV QhF ?_|refine QV QeT ?_|refine QV QeF ?_|refine QV QaA ?_))
        refine T_take (q := 3) ln rfl hln ?_
        rw [hFt]
        conv => arg 7; simp only [zA, zB, zC, zD, zE, zF, zG, zH, zI, rowS, ret, id_eq]
        refine T_ord ([blkO g11 (itC ((g.prods.length : Int), 1, (ln : Int))).toArray 105]) (.calm 0 (.calm 1 (.calm 2 (.calm 3 (.calm 4 (.calm 5 (.calm 6 (.calm 8 (.two 7 (.one 9 (.one 10 (.calm 11 (.one 12 (.done))))) 9 (.one 7 (.one 10 (.calm 11 (.one 12 (.done)))))))))))))) (sub_pick [4] (by decide) rfl) (by kernel_rfl) (by kernel_rfl) (by intro c a d v w h; cases d <;> exact h) ?_
        repeat(first|((first|refine TW_plain rfl rfl ?_|refine TW_gmet rfl rfl rfl rfl ?_);first|refine QW QP ?_|refine QW (rr_load1 (v := .int .i64 (ln : Int)) TyC.ty rfl (at_blk (i := 0) rfl rfl)) ?_|refine QW (rr_idx1 Und.eq TyC.ty rfl rfl hln) ?_|refine QW (rr_build rfl hb3) ?_|refine QW QL ?_|refine QW QA ?_|refine QW QlT ?_|refine QW QlF ?_|refine QW QhT ?_|refine QW QhF ?_|refine QW QeT ?_|refine QW QeF ?_|refine QW QaA ?_)|refine TW_skip rfl rfl rfl rfl rfl rfl rfl ?_|refine TW_done ?_)
        refine TW_two rfl rfl ?way1x ?way2x
        case' way1x =>
          refine TL_val (rr_load1 TyC.ty rfl (at_rowA (i := 2) rfl hln)) rfl rfl rfl (TW_on (sub_pick [4] (by decide) rfl) ?_)
          refine TW_one rfl (TL_one (cs := (actC (3, 0)).toArray) rfl rfl rfl rfl rfl fun g74 => TW_on (sub_pick [4] (by decide) rfl) ?_)
        case' way2x =>
          refine TL_one (cs := (actC (3, 0)).toArray) rfl rfl rfl rfl rfl fun g74 => TW_on (sub_pick [4] (by decide) rfl) ?_
          refine TW_one rfl (TL_val (rr_load1 TyC.ty rfl (at_rowA (i := 2) rfl hln)) rfl rfl rfl (TW_on (sub_pick [4] (by decide) rfl) ?_))
        all_goals
          refine TW_one rfl (TL_app1 (i := 5) (q := 6) rfl rfl rfl rfl rfl rfl (by omega) (by omega) rfl fun v3 => TW_on (sub_pick [4] (by decide) rfl) ?_)
          repeat(first|((first|refine TW_plain rfl rfl ?_|refine TW_gmet rfl rfl rfl rfl ?_);first|refine QW QP ?_|refine QW (rr_idx1 Und.eq TyC.ty rfl rfl hln) ?_|refine QW QL ?_|refine QW QA ?_|refine QW QlT ?_|refine QW QlF ?_|refine QW QhT ?_|refine QW QhF ?_|refine QW QeT ?_|refine QW QeF ?_|refine QW QaA ?_)|refine TW_skip rfl rfl rfl rfl rfl rfl rfl ?_|refine TW_done ?_)
          refine TW_one rfl (TL_slv (i := 5) rfl fun hv1 hv2 => TL_storeA (i := 2) (v := v3) (fun j => if j = ln then v3 else vs j) TyC.ty rfl rfl rfl hv1 hv2 hln (fun j _ => rfl) (TW_on (sub_pick [4] (by decide) rfl) ?_))
          repeat(first|((first|refine TW_plain rfl rfl ?_|refine TW_gmet rfl rfl rfl rfl ?_);first|refine QW QP ?_|refine QW QL ?_|refine QW QA ?_|refine QW QlT ?_|refine QW QlF ?_|refine QW QhT ?_|refine QW QhF ?_|refine QW QeT ?_|refine QW QeF ?_|refine QW QaA ?_)|refine TW_skip rfl rfl rfl rfl rfl rfl rfl ?_|refine TW_done ?_)
          refine E_put (D' := fun j => j < t + 1) (f' := actF (fun j => if j = ln then v3 else vs j) (actsK g.prods t nx t (s.take (k + 1)))) ln 3 5 [0, 1, 2] (by decide) rfl rfl rfl (fun h => h.2 rfl) (fun j hj => by
            by_cases e : j = ln
            · exact .inr e
            · exact .inl ⟨hj, e⟩) (fun j hj => by
            by_cases e : j = ln
            · subst e
              rw [upd_eq]
              unfold actF
              dsimp only
              rw [hmine, if_pos rfl, List.length_append, List.flatMap_append]
              rfl
            · rw [upd_ne e]
              unfold actF
              dsimp only
              rw [hoth j e, if_neg e]) ?_
          repeat(first|refine QV QP ?_|refine QZ ?_|refine qcT rfl ?_|refine qcF rfl ?_|refine E_blockX ?_|refine E_blockO rfl ?_|refine qs rfl rfl rfl rfl rfl rfl ?_|((try refine qg rfl rfl rfl ?_);first|refine QV QP ?_|refine QV QL ?_|refine QV QA ?_|refine QV QlT ?_|refine QV QlF ?_|refine QV QhT ?_|refine QV QhF ?_|refine QV QeT ?_|refine QV QeF ?_|refine QV QaA ?_))
          exact E_round (k + 1, fun j => if j = ln then v3 else vs j) (by show k + 1 ≤ s.length; omega) (by show s.length - (k + 1) < s.length - k; omega) (by repeat' (first | exact True.intro | refine And.intro rfl ?_)) rfl
      · have hsame : actsK g.prods t nx t (s.take (k + 1)) = actsK g.prods t nx t (s.take k) := funext fun j => by
          by_cases e : j = ln
          · subst e
            rw [if_neg (fun h => q2 (by have := h.2; omega)), if_neg (fun h => by have := h.1; omega)] at hall2
            rw [hall2]; exact List.append_nil _
          · exact hoth j e
        repeat(first|refine QV QP ?_|refine QZ ?_|refine qcT rfl ?_|refine qcF rfl ?_|refine E_blockX ?_|refine E_blockO rfl ?_|refine qs rfl rfl rfl rfl rfl rfl ?_|((try refine qg rfl rfl rfl ?_);first|refine QV QP ?_|refine QV (rr_load1 (v := .int .i64 (g.prods.length : Int)) TyC.ty rfl (at_blk (i := 4) rfl rfl)) ?_|refine QV (rr_load1 (v := .slice bp g.prods.length cp) TyC.ty rfl (at_blk (i := 0) rfl rfl)) ?_|refine QV (rr_load1 (v := .int .i64 (dn : Int)) TyC.ty rfl (at_blk (i := 4) rfl rfl)) ?_|refine QV QL ?_|refine QV QA ?_|refine QV QlT ?_|refine QV QlF ?_|refine QV QhT ?_|refine QV QhF ?_|refine QV QeT ?_|refine QV QeF ?_|refine QV QaA ?_))
        refine T_ord ([blkO g3 (graV (t : Int) g.nons (.slice bp g.prods.length cp)).cells 24, blkO g11 (itC ((g.prods.length : Int), (dn : Int), (ln : Int))).toArray 105]) (.calm 0 (.calm 1 (.calm 2 (.calm 3 (.calm 4 (.calm 5 (.calm 6 (.calm 7 (.calm 8 (.calm 9 (.calm 10 (.calm 11 (.calm 12 (.calm 13 (.calm 14 (.calm 15 (.calm 16 (.calm 17 (.calm 18 (.calm 19 (.done))))))))))))))))))))) (sub_pick [0, 4] (by decide) rfl) (by kernel_rfl) (by kernel_rfl) (by intro c a d v w h; cases d <;> exact h) ?_
        repeat(first|((first|refine TW_plain rfl rfl ?_|refine TW_gmet rfl rfl rfl rfl ?_);first|refine QW QP ?_|refine QW (rr_load1 (v := .int .i64 (g.prods.length : Int)) TyC.ty rfl (at_blk (i := 1) rfl rfl)) ?_|refine QW (rr_load1 (v := .slice bp g.prods.length cp) TyC.ty rfl (at_blk (i := 0) rfl rfl)) ?_|refine QW QL ?_|refine QW QA ?_|refine QW QlT ?_|refine QW QlF ?_|refine QW QhT ?_|refine QW QhF ?_|refine QW QeT ?_|refine QW QeF ?_|refine QW QaA ?_)|refine TW_skip rfl rfl rfl rfl rfl rfl rfl ?_|refine TW_done ?_)
        repeat(first|refine QV QP ?_|refine QZ ?_|refine qcT rfl ?_|refine qcF rfl ?_|refine E_blockX ?_|refine E_blockO rfl ?_|refine qs rfl rfl rfl rfl rfl rfl ?_|((try refine qg rfl rfl rfl ?_);first|refine QV QP ?_|refine QV QL ?_|refine QV QA ?_|refine QV QlT ?_|refine QV QlF ?_|refine QV QhT ?_|refine QV QhF ?_|refine QV QeT ?_|refine QV QeF ?_|refine QV QaA ?_))
        refine E_pick [0, 1, 2, 3] (by decide) rfl ?_
        exact E_round (k + 1, vs) (by show k + 1 ≤ s.length; omega) (by show s.length - (k + 1) < s.length - k; omega) (by repeat' (first | exact True.intro | refine And.intro rfl ?_)) (by dsimp only; rw [hsame]; rfl)
    · have hpn : pn < g.prods.length := by omega
      obtain ⟨pb, po, rfl, hFb, hpr⟩ := hrp (by omega)
      obtain ⟨bb, cb, hq1, hq2, hq3⟩ := prod_at hpr hpn
      have hpg : g.prods[pn] = prodAt g.prods (pn : Int) := by
        unfold prodAt
        rw [Int.toNat_natCast, List.getD_eq_getElem?_getD, List.getElem?_eq_getElem hpn]; rfl
      rw [hpg] at hq1 hq2 hq3
      have hatP : ∀ (L : List Own) (j : Nat) (v : Value), ([.int .i64 (prodAt g.prods (pn : Int)).1, .slice bb (prodAt g.prods (pn : Int)).2.length cb] : List Value)[j]? = some v → At w L ⟨pb, po + pn * 2 + j, none⟩ v := fun L j v hj => at_rd hq1 hj
      clear hpr hrp hq1 hq3
      by_cases q2 : dn = (prodAt g.prods (pn : Int)).2.length
      · subst q2
        have hmine : actsK g.prods t nx t (s.take (k + 1)) ln = actsK g.prods t nx t (s.take k) ln ++ [(2, (pn : Int))] := by
          rw [if_neg (fun h => q1 (by have := h.1; omega)), if_pos ⟨by omega, rfl⟩] at hall2; exact hall2
        repeat(first|refine QV QP ?_|refine QZ ?_|refine qcT rfl ?_|refine qcF rfl ?_|refine E_blockX ?_|refine E_blockO rfl ?_|refine qs rfl rfl rfl rfl rfl rfl ?_|((try refine qg rfl rfl rfl ?_);first|refine QV QP ?_|refine QV (rr_load1 (v := .int .i64 (pn : Int)) TyC.ty rfl (at_blk (i := 4) rfl rfl)) ?_|refine QV (rr_load1 (v := .slice (some ⟨pb, po, none⟩) g.prods.length cp) TyC.ty rfl (at_blk (i := 0) rfl rfl)) ?_|refine QV QL ?_|refine QV QA ?_|refine QV QlT ?_|refine QV QlF ?_|refine QV QhT ?_|refine QV QhF ?_|refine QV QeT ?_|refine QV QeF ?_|refine QV QaA ?_))
        refine T_ord ([blkO g3 (graV (t : Int) g.nons (.slice (some ⟨pb, po, none⟩) g.prods.length cp)).cells 24, blkO g11 (itC ((pn : Int), ((prodAt g.prods (pn : Int)).2.length : Int), (ln : Int))).toArray 105]) (.calm 0 (.calm 1 (.calm 2 (.calm 3 (.calm 4 (.calm 5 (.calm 6 (.calm 7 (.calm 8 (.calm 9 (.calm 10 (.calm 11 (.calm 12 (.calm 13 (.calm 14 (.calm 15 (.calm 16 (.calm 17 (.calm 18 (.calm 19 (.done))))))))))))))))))))) (sub_pick [0, 4] (by decide) rfl) (by kernel_rfl) (by kernel_rfl) (by intro c a d v w h; cases d <;> exact h) ?_
        repeat(first|((first|refine TW_plain rfl rfl ?_|refine TW_gmet rfl rfl rfl rfl ?_);first|refine QW QP ?_|refine QW (rr_load1 (v := .int .i64 (pn : Int)) TyC.ty rfl (at_blk (i := 1) rfl rfl)) ?_|refine QW (rr_load1 (v := .int .i64 ((prodAt g.prods (pn : Int)).2.length : Int)) TyC.ty rfl (at_blk (i := 1) rfl rfl)) ?_|refine QW (rr_load1 (v := .slice (some ⟨pb, po, none⟩) g.prods.length cp) TyC.ty rfl (at_blk (i := 0) rfl rfl)) ?_|refine QW (rr_idxc Und.eq TyC.ty rfl rfl hpn) ?_|refine QW (rr_load1 (v := .slice bb (prodAt g.prods (pn : Int)).2.length cb) TyC.ty rfl (hatP _ 1 _ rfl)) ?_|refine QW QL ?_|refine QW QA ?_|refine QW QlT ?_|refine QW QlF ?_|refine QW QhT ?_|refine QW QhF ?_|refine QW QeT ?_|refine QW QeF ?_|refine QW QaA ?_)|refine TW_skip rfl rfl rfl rfl rfl rfl rfl ?_|refine TW_done ?_)
        repeat(first|refine QV QP ?_|refine QZ ?_|refine qcT rfl ?_|refine qcF rfl ?_|refine E_blockX ?_|refine E_blockO rfl ?_|refine qs rfl rfl rfl rfl rfl rfl ?_|((try refine qg rfl rfl rfl ?_);first|refine QV QP ?_|refine QV QL ?_|refine QV QA ?_|refine QV QlT ?_|refine QV QlF ?_|refine QV QhT ?_|refine QV QhF ?_|refine QV QeT ?_|refine QV QeF ?_|refine QV QaA ?_))
        refine T_take (q := 3) ln rfl hln ?_
        rw [hFt]
        conv => arg 7; simp only [zA, zB, zC, zD, zE, zF, zG, zH, zI, rowS, ret, id_eq]
        refine T_ord ([blkO g11 (itC ((pn : Int), ((prodAt g.prods (pn : Int)).2.length : Int), (ln : Int))).toArray 105]) (.calm 0 (.calm 1 (.calm 2 (.calm 3 (.calm 4 (.calm 5 (.calm 6 (.calm 8 (.calm 9 (.calm 10 (.two 7 (.one 11 (.one 12 (.calm 13 (.one 14 (.done))))) 11 (.one 7 (.one 12 (.calm 13 (.one 14 (.done)))))))))))))))) (sub_pick [4] (by decide) rfl) (by kernel_rfl) (by kernel_rfl) (by intro c a d v w h; cases d <;> exact h) ?_
        repeat(first|((first|refine TW_plain rfl rfl ?_|refine TW_gmet rfl rfl rfl rfl ?_);first|refine QW QP ?_|refine QW (rr_load1 (v := .int .i64 (ln : Int)) TyC.ty rfl (at_blk (i := 0) rfl rfl)) ?_|refine QW (rr_load1 (v := .int .i64 (pn : Int)) TyC.ty rfl (at_blk (i := 0) rfl rfl)) ?_|refine QW (rr_idx1 Und.eq TyC.ty rfl rfl hln) ?_|refine QW (rr_build rfl (hb2 _)) ?_|refine QW QL ?_|refine QW QA ?_|refine QW QlT ?_|refine QW QlF ?_|refine QW QhT ?_|refine QW QhF ?_|refine QW QeT ?_|refine QW QeF ?_|refine QW QaA ?_)|refine TW_skip rfl rfl rfl rfl rfl rfl rfl ?_|refine TW_done ?_)
        refine TW_two rfl rfl ?way1y ?way2y
        case' way1y =>
          refine TL_val (rr_load1 TyC.ty rfl (at_rowA (i := 2) rfl hln)) rfl rfl rfl (TW_on (sub_pick [4] (by decide) rfl) ?_)
          refine TW_one rfl (TL_one (cs := (actC (2, (pn : Int))).toArray) rfl rfl rfl rfl rfl fun g74 => TW_on (sub_pick [4] (by decide) rfl) ?_)
        case' way2y =>
          refine TL_one (cs := (actC (2, (pn : Int))).toArray) rfl rfl rfl rfl rfl fun g74 => TW_on (sub_pick [4] (by decide) rfl) ?_
          refine TW_one rfl (TL_val (rr_load1 TyC.ty rfl (at_rowA (i := 2) rfl hln)) rfl rfl rfl (TW_on (sub_pick [4] (by decide) rfl) ?_))
        all_goals
          refine TW_one rfl (TL_app1 (i := 5) (q := 6) rfl rfl rfl rfl rfl rfl (by omega) (by omega) rfl fun v3 => TW_on (sub_pick [4] (by decide) rfl) ?_)
          repeat(first|((first|refine TW_plain rfl rfl ?_|refine TW_gmet rfl rfl rfl rfl ?_);first|refine QW QP ?_|refine QW (rr_idx1 Und.eq TyC.ty rfl rfl hln) ?_|refine QW QL ?_|refine QW QA ?_|refine QW QlT ?_|refine QW QlF ?_|refine QW QhT ?_|refine QW QhF ?_|refine QW QeT ?_|refine QW QeF ?_|refine QW QaA ?_)|refine TW_skip rfl rfl rfl rfl rfl rfl rfl ?_|refine TW_done ?_)
          refine TW_one rfl (TL_slv (i := 5) rfl fun hv1 hv2 => TL_storeA (i := 2) (v := v3) (fun j => if j = ln then v3 else vs j) TyC.ty rfl rfl rfl hv1 hv2 hln (fun j _ => rfl) (TW_on (sub_pick [4] (by decide) rfl) ?_))
          repeat(first|((first|refine TW_plain rfl rfl ?_|refine TW_gmet rfl rfl rfl rfl ?_);first|refine QW QP ?_|refine QW QL ?_|refine QW QA ?_|refine QW QlT ?_|refine QW QlF ?_|refine QW QhT ?_|refine QW QhF ?_|refine QW QeT ?_|refine QW QeF ?_|refine QW QaA ?_)|refine TW_skip rfl rfl rfl rfl rfl rfl rfl ?_|refine TW_done ?_)
          refine E_put (D' := fun j => j < t + 1) (f' := actF (fun j => if j = ln then v3 else vs j) (actsK g.prods t nx t (s.take (k + 1)))) ln 3 5 [0, 1, 2] (by decide) rfl rfl rfl (fun h => h.2 rfl) (fun j hj => by
            by_cases e : j = ln
            · exact .inr e
            · exact .inl ⟨hj, e⟩) (fun j hj => by
            by_cases e : j = ln
            · subst e
              rw [upd_eq]
              unfold actF
              dsimp only
              rw [hmine, if_pos rfl, List.length_append, List.flatMap_append]
              rfl
            · rw [upd_ne e]
              unfold actF
              dsimp only
              rw [hoth j e, if_neg e]) ?_
          repeat(first|refine QV QP ?_|refine QZ ?_|refine qcT rfl ?_|refine qcF rfl ?_|refine E_blockX ?_|refine E_blockO rfl ?_|refine qs rfl rfl rfl rfl rfl rfl ?_|((try refine qg rfl rfl rfl ?_);first|refine QV QP ?_|refine QV QL ?_|refine QV QA ?_|refine QV QlT ?_|refine QV QlF ?_|refine QV QhT ?_|refine QV QhF ?_|refine QV QeT ?_|refine QV QeF ?_|refine QV QaA ?_))
          exact E_round (k + 1, fun j => if j = ln then v3 else vs j) (by show k + 1 ≤ s.length; omega) (by show s.length - (k + 1) < s.length - k; omega) (by repeat' (first | exact True.intro | refine And.intro rfl ?_)) rfl
      · have hsame : actsK g.prods t nx t (s.take (k + 1)) = actsK g.prods t nx t (s.take k) := funext fun j => by
          by_cases e : j = ln
          · subst e
            rw [if_neg (fun h => q1 (by have := h.1; omega)), if_neg (fun h => q2 (by have := h.2; omega))] at hall2
            rw [hall2]; exact List.append_nil _
          · exact hoth j e
        repeat(first|refine QV QP ?_|refine QZ ?_|refine qcT rfl ?_|refine qcF rfl ?_|refine E_blockX ?_|refine E_blockO rfl ?_|refine qs rfl rfl rfl rfl rfl rfl ?_|((try refine qg rfl rfl rfl ?_);first|refine QV QP ?_|refine QV (rr_load1 (v := .int .i64 (pn : Int)) TyC.ty rfl (at_blk (i := 4) rfl rfl)) ?_|refine QV (rr_load1 (v := .slice (some ⟨pb, po, none⟩) g.prods.length cp) TyC.ty rfl (at_blk (i := 0) rfl rfl)) ?_|refine QV QL ?_|refine QV QA ?_|refine QV QlT ?_|refine QV QlF ?_|refine QV QhT ?_|refine QV QhF ?_|refine QV QeT ?_|refine QV QeF ?_|refine QV QaA ?_))
        refine T_ord ([blkO g3 (graV (t : Int) g.nons (.slice (some ⟨pb, po, none⟩) g.prods.length cp)).cells 24, blkO g11 (itC ((pn : Int), (dn : Int), (ln : Int))).toArray 105]) (.calm 0 (.calm 1 (.calm 2 (.calm 3 (.calm 4 (.calm 5 (.calm 6 (.calm 7 (.calm 8 (.calm 9 (.calm 10 (.calm 11 (.calm 12 (.calm 13 (.calm 14 (.calm 15 (.calm 16 (.calm 17 (.calm 18 (.calm 19 (.done))))))))))))))))))))) (sub_pick [0, 4] (by decide) rfl) (by kernel_rfl) (by kernel_rfl) (by intro c a d v w h; cases d <;> exact h) ?_
        repeat(first|((first|refine TW_plain rfl rfl ?_|refine TW_gmet rfl rfl rfl rfl ?_);first|refine QW QP ?_|refine QW (rr_load1 (v := .int .i64 (pn : Int)) TyC.ty rfl (at_blk (i := 1) rfl rfl)) ?_|refine QW (rr_load1 (v := .int .i64 (dn : Int)) TyC.ty rfl (at_blk (i := 1) rfl rfl)) ?_|refine QW (rr_load1 (v := .slice (some ⟨pb, po, none⟩) g.prods.length cp) TyC.ty rfl (at_blk (i := 0) rfl rfl)) ?_|refine QW (rr_idxc Und.eq TyC.ty rfl rfl hpn) ?_|refine QW (rr_load1 (v := .slice bb (prodAt g.prods (pn : Int)).2.length cb) TyC.ty rfl (hatP _ 1 _ rfl)) ?_|refine QW QL ?_|refine QW QA ?_|refine QW QlT ?_|refine QW QlF ?_|refine QW QhT ?_|refine QW QhF ?_|refine QW QeT ?_|refine QW QeF ?_|refine QW QaA ?_)|refine TW_skip rfl rfl rfl rfl rfl rfl rfl ?_|refine TW_done ?_)
        repeat(first|refine QV QP ?_|refine QZ ?_|refine qcT rfl ?_|refine qcF rfl ?_|refine E_blockX ?_|refine E_blockO rfl ?_|refine qs rfl rfl rfl rfl rfl rfl ?_|((try refine qg rfl rfl rfl ?_);first|refine QV QP ?_|refine QV QL ?_|refine QV QA ?_|refine QV QlT ?_|refine QV QlF ?_|refine QV QhT ?_|refine QV QhF ?_|refine QV QeT ?_|refine QV QeF ?_|refine QV QaA ?_))
        refine E_pick [0, 1, 2, 3] (by decide) rfl ?_
        exact E_round (k + 1, vs) (by show k + 1 ≤ s.length; omega) (by show s.length - (k + 1) < s.length - k; omega) (by repeat' (first | exact True.intro | refine And.intro rfl ?_)) (by dsimp only; rw [hsame]; rfl)
  · obtain rfl : k = s.length := by omega
    rw [List.take_length]
    repeat(first|refine QV QP ?_|refine QZ ?_|refine qcT rfl ?_|refine qcF rfl ?_|refine E_blockX ?_|refine E_blockO rfl ?_|refine qs rfl rfl rfl rfl rfl rfl ?_|((try refine qg rfl rfl rfl ?_);first|refine QV QP ?_|refine QV QL ?_|refine QV QA ?_|refine QV QlT ?_|refine QV QlF ?_|refine QV QhT ?_|refine QV QhF ?_|refine QV QeT ?_|refine QV QeF ?_|refine QV QaA ?_))
    exact E_ret1 rfl rfl fun w hm => hm.meets (S := actsS t (actsI g.prods t s nx)) (g7, vs) trivial [2, 3] (by decide) rfl
end Go.Proofs.Ytdbghmgajmlkmaa.eng

/- ItD -/
namespace Go.Proofs.Ytdbghmgajmlkmaa.eng
open Go.RowKit kit mix gramL treeL factsL itemL smallL
def itCnt (c : itemL.Item → Nat) (x : itemL.Item) : Value := .int .i64 (c x : Int)
def itUp (c : itemL.Item → Nat) (it : itemL.Item) (x : itemL.Item) : Nat := if x = it then c x + 1 else c x
/-- how often each was handed in, and what is told -/
structure PutOk (c : itemL.Item → Nat) (out : List itemL.Item) (b : Nat) : Prop where
  zero : ∀ x, c x = 0 ↔ x ∉ out
  le : ∀ x, c x ≤ b
theorem PutOk.put {c : itemL.Item → Nat} {out : List itemL.Item} {b : Nat} (h : PutOk c out b) (it : itemL.Item) : PutOk (itUp c it) (more out it) (b + 2) := by
  refine ⟨fun x => ?_, fun x => ?_⟩
  · unfold itUp
    by_cases e : x = it
    · subst e
      rw [if_pos rfl]
      constructor
      · intro h; omega
      · intro h; exact absurd (mem_more.2 (.inr rfl)) h
    · rw [if_neg e, h.zero x]
      rw [mem_more]
      constructor
      · intro h1 h2; exact h2.elim h1 e
      · intro h1 h2; exact h1 (.inl h2)
  · unfold itUp
    have := h.le x
    split <;> omega
def putL (g5 gm g6 b : Nat) (v : Value) (c : itemL.Item → Nat) (out : List itemL.Item) : List Own :=
  [blkO g5 #[.map (some gm)] 113, mapT itK gm (.int .i64 0) (itCnt c) b, blkO g6 #[v] 99, rowO 105 3 v out.length (out.flatMap itC)]
theorem it_oneC (x : itemL.Item) : ∀ u ∈ itC x, u.oneCell' = true := by
  intro u hu
  simp only [itC, List.mem_cons, List.not_mem_nil, or_false] at hu
  rcases hu with rfl | rfl | rfl <;> rfl
set_option maxHeartbeats 2000000 in
theorem itPut_calls (g5 gm g6 b : Nat) (v : Value) (c : itemL.Item → Nat) (out : List itemL.Item) (it : itemL.Item) (hit : itK.ok it) (hp : PutOk c out b) (hb : b + 2 ≤ 1152921504606846976) (ho : out.length + 1 ≤ 1000000) (w : World) (B : Base) (hm : Mem B (putL g5 gm g6 b v c out) w) :
    Calls Try.prog 42 #[.agg (itC it).toArray, .pointer (some ⟨g5, 0, none⟩), .pointer (some ⟨g6, 0, none⟩)] w (MeetsB ⟨fun _ => True, fun _ => .tuple #[], fun v' => putL g5 gm g6 (b + 2) v' (itUp c it) (more out it)⟩ B) := by
  unfold putL at hm
  have hle := hp.le it
  have hz := hp.zero it
  obtain ⟨n, hn⟩ : ∃ n, c it = n := ⟨_, rfl⟩
  obtain ⟨F, hF⟩ : ∃ F, itCnt c = F := ⟨_, rfl⟩
  obtain ⟨F', hF'⟩ : ∃ F', itCnt (itUp c it) = F' := ⟨_, rfl⟩
  have hcv : F it = .int .i64 (n : Int) := by rw [← hF, ← hn]; rfl
  have hF1 : F' it = .int .i64 ((n + 1 : Nat) : Int) := by rw [← hF', ← hn]; show Value.int .i64 ((itUp c it it : Nat) : Int) = _; unfold itUp; rw [if_pos rfl]
  have hnx : ∀ y, itK.ok y → F' y = if y = it then .int .i64 ((n + 1 : Nat) : Int) else F y := fun y _ => by
    rw [← hF', ← hF, ← hn]
    show Value.int .i64 ((itUp c it y : Nat) : Int) = if y = it then _ else Value.int .i64 ((c y : Nat) : Int)
    unfold itUp
    by_cases e : y = it
    · subst e; rw [if_pos rfl, if_pos rfl]
    · rw [if_neg e, if_neg e]
  rw [hF] at hm
  rw [hn] at hle hz
  clear hp
  refine enterB hm (args := [.agg (itC it).toArray, .pointer (some ⟨g5, 0, none⟩), .pointer (some ⟨g6, 0, none⟩)]) (n := 18) Try.func42 rfl rfl rfl ?_
  refine T_seq (T_region (TL_box rfl rfl rfl fun g3 => ?_))
  conv=>arg 8;simp only[zA,zB,zC,zD,zE,zF,zG,zH,zI,rowS,ret,id_eq]
  repeat(first|refine QV QP ?_|refine QZ ?_|refine qcT rfl ?_|refine qcF rfl ?_|refine QV QeT ?_|refine QV QeF ?_|refine QV QaA ?_)
  (repeat refine T_seq ?_)
  refine T_midq (ι := Unit) (fun _ => True) (fun _ => [(1, .pointer (some ⟨g5, 0, none⟩)), (2, .pointer (some ⟨g6, 0, none⟩)), (3, .pointer (some ⟨g3, 0, none⟩))]) (fun _ => [blkO g5 #[.map (some gm)] 113, mapT itK gm (.int .i64 0) F' (b + 1 + 1), blkO g6 #[v] 99, rowO 105 3 v out.length (out.flatMap itC), blkO g3 (itC it).toArray 105]) ?_ ?_
  · refine T_ord ([blkO g5 #[.map (some gm)] 113, blkO g3 (itC it).toArray 105]) (.calm 0 (.calm 1 (.two 2 (.calm 3 (.one 4 (.calm 5 (.one 6 (.done))))) 4 (.calm 5 (.one 2 (.calm 3 (.one 6 (.done)))))))) (sub_pick [0, 4] (by decide) rfl) (by kernel_rfl) (by kernel_rfl) (by intro c a d v w h; cases d <;> exact h) ?_
    repeat(first|((first|refine TW_plain rfl rfl ?_|refine TW_gmet rfl rfl rfl rfl ?_);first|refine QW QP ?_|refine QW (rr_load1 (v := .map (some gm)) TyC.ty rfl (at_blk (i := 0) rfl rfl)) ?_|refine QW (rr_loadB (i := 1) TyC.ty rfl rfl rfl) ?_|refine QW QeT ?_|refine QW QeF ?_|refine QW QaA ?_)|refine TW_done ?_)
    refine TW_two rfl rfl ?_ ?_
    · refine TL_val (rr_lookT itK Und.eq zero_i64 (i := 1) rfl rfl (x := it) rfl hit hcv) rfl rfl rfl (TW_on (sub_pick [0, 4] (by decide) rfl) ?_)
      repeat(first|((first|refine TW_plain rfl rfl ?_|refine TW_gmet rfl rfl rfl rfl ?_);first|refine QW QP ?_|refine QW (rr_add64 (r := ((n + 1 : Nat) : Int)) rfl rfl (by omega) (by omega) (by omega)) ?_|refine QW QeT ?_|refine QW QeF ?_|refine QW QaA ?_)|refine TW_done ?_)
      refine TW_one rfl (TL_entry itK Und.eq zero_i64 (i := 1) rfl rfl (x := it) rfl hit (by omega) rfl fun st => TW_on (sub_pick [0, 4] (by decide) rfl) ?_)
      repeat(first|((first|refine TW_plain rfl rfl ?_|refine TW_gmet rfl rfl rfl rfl ?_);first|refine QW QP ?_|refine QW QeT ?_|refine QW QeF ?_|refine QW QaA ?_)|refine TW_done ?_)
      refine TW_one rfl (TL_entSet itK F' Und.eq (i := 1) rfl rfl rfl rfl hit (by omega) hnx (TW_on (sub_pick [0, 4] (by decide) rfl) ?_))
      repeat(first|((first|refine TW_plain rfl rfl ?_|refine TW_gmet rfl rfl rfl rfl ?_);first|refine QW QP ?_|refine QW QeT ?_|refine QW QeF ?_|refine QW QaA ?_)|refine TW_done ?_)
      exact E_mid () trivial (by repeat' (first | exact True.intro | refine And.intro rfl ?_)) rfl
    · refine TL_entry itK Und.eq zero_i64 (i := 1) rfl rfl (x := it) rfl hit (by omega) rfl fun st => TW_on (sub_pick [0, 4] (by decide) rfl) ?_
      repeat(first|((first|refine TW_plain rfl rfl ?_|refine TW_gmet rfl rfl rfl rfl ?_);first|refine QW QP ?_|refine QW QeT ?_|refine QW QeF ?_|refine QW QaA ?_)|refine TW_done ?_)
      refine TW_one rfl (TL_val (rr_lookE itK Und.eq zero_i64 (i := 1) rfl rfl (x := it) rfl hit hcv) rfl rfl rfl (TW_on (sub_pick [0, 4] (by decide) rfl) ?_))
      repeat(first|((first|refine TW_plain rfl rfl ?_|refine TW_gmet rfl rfl rfl rfl ?_);first|refine QW QP ?_|refine QW (rr_add64 (r := ((n + 1 : Nat) : Int)) rfl rfl (by omega) (by omega) (by omega)) ?_|refine QW QeT ?_|refine QW QeF ?_|refine QW QaA ?_)|refine TW_done ?_)
      refine TW_one rfl (TL_entSet itK F' Und.eq (i := 1) rfl rfl rfl rfl hit (by omega) hnx (TW_on (sub_pick [0, 4] (by decide) rfl) ?_))
      repeat(first|((first|refine TW_plain rfl rfl ?_|refine TW_gmet rfl rfl rfl rfl ?_);first|refine QW QP ?_|refine QW QeT ?_|refine QW QeF ?_|refine QW QaA ?_)|refine TW_done ?_)
      exact E_mid () trivial (by repeat' (first | exact True.intro | refine And.intro rfl ?_)) rfl
  rintro ⟨⟩ _
  by_cases c1 : it ∈ out
  · have hm1 : more out it = out := if_pos c1
    rw [hm1]
    have hn0 : n ≠ 0 := fun e => hz.1 e c1
    clear hnx hcv
    repeat(first|refine QV QP ?_|refine QZ ?_|refine qcT rfl ?_|refine qcF rfl ?_|refine QV (rr_load1 (v := .map (some gm)) TyC.ty rfl (at_blk (i := 0) rfl rfl)) ?_|refine QV (rr_loadB (i := 4) TyC.ty rfl rfl rfl) ?_|refine QV (rr_lookT itK Und.eq zero_i64 (i := 1) rfl rfl (x := it) rfl hit hF1) ?_|refine QV (rr_eql (b := false) rfl rfl (decide_eq_false (by omega))) ?_|refine QV QeT ?_|refine QV QeF ?_|refine QV QaA ?_)
    exact E_end0 rfl fun w hm => hm.meetsB (S := ⟨fun (_ : Value) => True, fun _ => .tuple #[], fun v' => putL g5 gm g6 (b + 2) v' (itUp c it) out⟩) v trivial [0, 1, 2, 3] (by decide) (by unfold putL; rw [← hF']; rfl)
  · have hm1 : more out it = out ++ [it] := if_neg c1
    rw [hm1]
    have hn0 : n = 0 := hz.2 c1
    clear hnx hcv
    repeat(first|refine QV QP ?_|refine QZ ?_|refine qcT rfl ?_|refine qcF rfl ?_|refine QV (rr_load1 (v := .map (some gm)) TyC.ty rfl (at_blk (i := 0) rfl rfl)) ?_|refine QV (rr_loadB (i := 4) TyC.ty rfl rfl rfl) ?_|refine QV (rr_lookT itK Und.eq zero_i64 (i := 1) rfl rfl (x := it) rfl hit hF1) ?_|refine QV (rr_eql (b := true) rfl rfl (decide_eq_true (by omega))) ?_|refine QV (rr_load1 (v := v) TyC.ty rfl (at_blk (i := 2) rfl rfl)) ?_|refine QV QeT ?_|refine QV QeF ?_|refine QV QaA ?_)
    refine TL_litN (cs := (itC it).toArray) [.agg (itC it).toArray] rfl rfl rfl (by intro v hv; simp only [List.mem_cons, List.not_mem_nil, or_false] at hv; subst hv; rfl) rfl rfl rfl fun g16 => ?_
    conv=>arg 8;simp only[zA,zB,zC,zD,zE,zF,zG,zH,zI,rowS,ret,id_eq]
    refine TL_appSl (i := 3) (e := 105) (size := 3) (bytes := 24) (m := out.length) (xs := out.flatMap itC) (k := 1) (ys := itC it) rfl (sl_blk (i := 5) rfl (fun j u h => by simpa using h) (Nat.le_refl 1) (by decide)) rfl rfl rfl (it_oneC it) (by omega) (by omega) rfl fun v' => ?_
    conv=>arg 8;simp only[zA,zB,zC,zD,zE,zF,zG,zH,zI,rowS,ret,id_eq]
    refine TL_slv (i := 3) rfl fun hv1 hv2 => ?_
    refine TL_store1 (i := 2) rfl rfl rfl hv1 hv2 rfl ?_
    conv=>arg 8;simp only[zA,zB,zC,zD,zE,zF,zG,zH,zI,rowS,ret,id_eq]
    repeat(first|refine QV QP ?_|refine QZ ?_|refine qcT rfl ?_|refine qcF rfl ?_|refine QV QeT ?_|refine QV QeF ?_|refine QV QaA ?_)
    exact E_end0 rfl fun w hm => hm.meetsB (S := ⟨fun (_ : Value) => True, fun _ => .tuple #[], fun v' => putL g5 gm g6 (b + 2) v' (itUp c it) (out ++ [it])⟩) v' trivial [0, 1, 2, 3] (by decide) (by unfold putL; rw [← hF', List.flatMap_append, List.length_append]; rfl)
end Go.Proofs.Ytdbghmgajmlkmaa.eng

/- SortJ -/
namespace Go.Proofs.Ytdbghmgajmlkmaa.eng
open Go.Shelf
def sortIt_ren : Go.Shelf.Ren := ⟨fun | 6 => 45 | 15 => 49 | 14 => 48 | 28 => 62 | 29 => 63 | 20 => 54 | 21 => 55 | 22 => 56 | 23 => 57 | 24 => 58 | 25 => 59 | 26 => 60 | 27 => 61 | 46 => 66 | 47 => 67 | 48 => 68 | 49 => 69 | 50 => 70 | 57 => 71 | n => n, fun | 22 => 99 | 24 => 105 | 25 => 118 | 3 => 3 | 39 => 123 | 0 => 0 | 53 => 138 | 55 => 58 | 4 => 4 | 46 => 132 | 45 => 131 | 50 => 100 | 5 => 5 | 9 => 9 | 66 => 142 | 70 => 146 | 76 => 148 | 77 => 149 | n => n, fun | n => n⟩
theorem sortIt : Go.Proofs.SlLaysF0.n6 Try.prog sortIt_ren := {
  mixed := by kernel_rfl
  f6 := ⟨Try.f45.name, by decide, Try.func45.trans (congrArg some (by kernel_rfl))⟩
  f14 := ⟨Try.f48.name, by decide, Try.func48.trans (congrArg some (by kernel_rfl))⟩
  f15 := Try.func49.trans (congrArg some (by kernel_rfl))
  f20 := ⟨Try.f54.name, by decide, Try.func54.trans (congrArg some (by kernel_rfl))⟩
  f21 := ⟨Try.f55.name, by decide, Try.func55.trans (congrArg some (by kernel_rfl))⟩
  f22 := ⟨Try.f56.name, by decide, Try.func56.trans (congrArg some (by kernel_rfl))⟩
  f23 := ⟨Try.f57.name, by decide, Try.func57.trans (congrArg some (by kernel_rfl))⟩
  f24 := ⟨Try.f58.name, by decide, Try.func58.trans (congrArg some (by kernel_rfl))⟩
  f25 := ⟨Try.f59.name, by decide, Try.func59.trans (congrArg some (by kernel_rfl))⟩
  f26 := ⟨Try.f60.name, by decide, Try.func60.trans (congrArg some (by kernel_rfl))⟩
  f27 := ⟨Try.f61.name, by decide, Try.func61.trans (congrArg some (by kernel_rfl))⟩
  f28 := Try.func62.trans (congrArg some (by kernel_rfl))
  f29 := Try.func63.trans (congrArg some (by kernel_rfl))
  f46 := ⟨Try.f66.name, by decide, Try.func66.trans (congrArg some (by kernel_rfl))⟩
  f47 := Try.func67.trans (congrArg some (by kernel_rfl))
  f48 := Try.func68.trans (congrArg some (by kernel_rfl))
  f49 := ⟨Try.f69.name, by decide, Try.func69.trans (congrArg some (by kernel_rfl))⟩
  f50 := ⟨Try.f70.name, by decide, Try.func70.trans (congrArg some (by kernel_rfl))⟩
  f57 := ⟨Try.f71.name, by decide, Try.func71.trans (congrArg some (by kernel_rfl))⟩
  t0 := Try.underlying0
  a0 := Try.isAgg0
  z0 := Try.sizeOf0
  v0 := Try.zeroValue0
  t3 := Try.underlying3
  a3 := Try.isAgg3
  z3 := Try.sizeOf3
  v3 := Try.zeroValue3
  t4 := Try.underlying4
  a4 := Try.isAgg4
  z4 := Try.sizeOf4
  v4 := Try.zeroValue4
  t5 := Try.underlying5
  a5 := Try.isAgg5
  z5 := Try.sizeOf5
  v5 := Try.zeroValue5
  t9 := Try.underlying9
  a9 := Try.isAgg9
  z9 := Try.sizeOf9
  v9 := Try.zeroValue9
  t22 := Try.underlying99
  a22 := Try.isAgg99
  z22 := Try.sizeOf99
  v22 := Try.zeroValue99
  t25 := Try.underlying118
  a25 := Try.isAgg118
  z25 := Try.sizeOf118
  v25 := Try.zeroValue118
  t39 := Try.underlying123
  a39 := Try.isAgg123
  z39 := Try.sizeOf123
  v39 := Try.zeroValue123
  t45 := Try.underlying131
  a45 := Try.isAgg131
  z45 := Try.sizeOf131
  v45 := Try.zeroValue131
  t46 := Try.underlying132
  a46 := Try.isAgg132
  z46 := Try.sizeOf132
  v46 := Try.zeroValue132
  t50 := Try.underlying100
  a50 := Try.isAgg100
  z50 := Try.sizeOf100
  v50 := Try.zeroValue100
  t53 := Try.underlying138
  a53 := Try.isAgg138
  z53 := Try.sizeOf138
  v53 := Try.zeroValue138
  t55 := Try.underlying58
  a55 := Try.isAgg58
  z55 := Try.sizeOf58
  v55 := Try.zeroValue58
  t66 := Try.underlying142
  a66 := Try.isAgg142
  z66 := Try.sizeOf142
  v66 := Try.zeroValue142
  t70 := Try.underlying146
  a70 := Try.isAgg146
  z70 := Try.sizeOf146
  v70 := Try.zeroValue146
  t76 := Try.underlying148
  a76 := Try.isAgg148
  z76 := Try.sizeOf148
  v76 := Try.zeroValue148
  t77 := Try.underlying149
  a77 := Try.isAgg149
  z77 := Try.sizeOf149
  v77 := Try.zeroValue149 }
end Go.Proofs.Ytdbghmgajmlkmaa.eng

/- ItE -/
namespace Go.Proofs.Ytdbghmgajmlkmaa.eng
open Go.RowKit kit mix itemL Go.Sort
theorem put_blockV (w : World) (n g : Nat) (d : Array Value) (os : Array Obj) {k : Nat} (hk : k < w.heap.size) (hg : k ≠ g) : (grow (putRow id (Go.Sort.ahead w n) g 0 d) os).heap[k]? = w.heap[k]? := by
  rw [heap_grow_old _ _ (by rw [size_putRow]; exact hk)]
  show (w.heap.modify g _)[k]? = w.heap[k]?
  rw [Array.getElem?_modify, if_neg (fun h => hg h.symm)]
theorem put_memV {B : Base} {w : World} {e : TypeId} {g cap m size : Nat} {xs : List Value} (hm : Mem B [rowO e size (.slice (some ⟨g, 0, none⟩) m cap) m xs] w) (d : Array Value) (hd : d.size = m * size) (n : Nat) (os : Array Obj) :
    Mem B [rowO e size (.slice (some ⟨g, 0, none⟩) m cap) m d.toList] (grow (putRow id (Go.Sort.ahead w n) g 0 d) os) := by
  have ho : w.ownsRow 0 e size (.slice (some ⟨g, 0, none⟩) m cap) m xs := hm.get (i := 0) rfl
  obtain ⟨hl, hr⟩ := ho
  rcases hr with ⟨h, _⟩ | ⟨g2, cap2, cur, hv, _, hg, hc, hx, hs, ht⟩
  · cases h
  cases hv
  have hmay : B.may g := (hm.owns.all 0 _ rfl).2 g (.inl rfl)
  have hgw : g < w.heap.size := (Array.getElem?_eq_some_iff.1 hg).1
  have hheap : (grow (putRow id (Go.Sort.ahead w n) g 0 d) os).heap[g]? = some (.cells (putCells id 0 d cur) e (0, 0)) := by
    rw [heap_grow_old _ _ (by rw [size_putRow]; exact hgw)]
    show (w.heap.modify g (onCells (putCells id 0 d)))[g]? = _
    rw [Array.getElem?_modify, if_pos rfl, hg]; rfl
  have hle : m * size ≤ cap * size := Nat.mul_le_mul_right _ hc
  refine ⟨⟨hm.low.os, hm.low.tape, hm.low.output, ?_, fun k hk hx => ?_⟩, OwnsP.one ⟨?_, .inr ⟨g, cap, _, rfl, Nat.zero_le _, hheap, hc, hx, ?_, ?_⟩⟩ fun k hk => ?_⟩
  · rw [size_grow, size_putRow]; exact Nat.le_trans hm.low.size (Nat.le_add_right _ _)
  · have hkg : k ≠ g := fun e => by
      subst e
      rcases hmay with h | h
      · omega
      · exact hx h
    rw [put_blockV w n g d os (Nat.lt_of_lt_of_le hk hm.low.size) hkg]
    exact hm.low.block k hk hx
  · rw [Array.length_toList, hd]
  · unfold putCells; rw [Array.size_mapIdx]; exact hs
  · apply List.ext_getElem?
    intro j
    rw [List.getElem?_take]
    by_cases hj : j < m * size
    · have hjc : j < cur.size := by omega
      rw [if_pos hj, Array.getElem?_toList, Array.getElem?_toList]
      unfold putCells
      rw [Array.getElem?_mapIdx, Array.getElem?_eq_getElem hjc, Option.map_some, if_pos ⟨Nat.zero_le _, by omega⟩, Nat.sub_zero, getElem!_pos d j (by omega), Array.getElem?_eq_getElem (by omega : j < d.size)]
      rfl
    · rw [if_neg hj, Array.getElem?_toList, Array.getElem?_eq_none (by omega)]
  · rcases hk with h | h
    · simp only [rowO, Value.ownBlock, Option.some.injEq] at h; subst h; exact hmay
    · exact h.elim
theorem swo_it : SWO (ltOf ordI) := ⟨ltI_irr, fun _ _ _ h1 h2 => ltI_tr h1 h2, fun x y z h1 h2 => by
  have h1 : ltI x y = false := h1
  have h2 : ltI y z = false := h2
  show ltI x z = false
  rw [ltI_no] at *; omega⟩
theorem flat_it (l : List itemL.Item) : (flatK itC 3 l.toArray).toList = l.flatMap itC := by
  have hL : (l.flatMap itC).length = l.length * 3 := len_el itC_len l
  apply List.ext_getElem?
  intro t
  by_cases ht : t < l.length * 3
  · have hd : t / 3 < l.length := by omega
    have h1 := get_flatK itC 3 l.toArray t (by simpa using ht)
    rw [getElem!_pos (flatK itC 3 l.toArray) t (by simpa using ht), getElem!_pos l.toArray (t / 3) (by simpa using hd)] at h1
    have h2 := flatten_get (c := 3) (l.map itC) (fun x hx => by obtain ⟨y, _, rfl⟩ := List.mem_map.1 hx; exact itC_len y) (t / 3) (t % 3) (by simpa using hd) (Nat.mod_lt _ (by decide))
    rw [show t / 3 * 3 + t % 3 = t by omega, List.getElem_map] at h2
    rw [Array.getElem?_toList, Array.getElem?_eq_getElem (by simpa using ht), h1]
    show _ = (l.map itC).flatten[t]?
    rw [h2]
    have h3 : t % 3 < (itC l[t / 3]).length := by rw [itC_len]; exact Nat.mod_lt _ (by decide)
    rw [List.getElem?_eq_getElem h3]
    simp only [List.getElem_toArray]
    rw [getElem!_pos (itC l[t / 3]) (t % 3) h3]
  · rw [List.getElem?_eq_none (by rw [Array.length_toList, size_flatK]; simp; omega), List.getElem?_eq_none (by omega)]
theorem row_holdsV {w : World} {e : TypeId} {g cap m size : Nat} {xs : List Value} (ho : w.ownsRow 0 e size (.slice (some ⟨g, 0, none⟩) m cap) m xs) (d : Array Value) (hd : d.toList = xs) : Holds id w g 0 d ∧ g < w.heap.size := by
  obtain ⟨hl, hr⟩ := ho
  rcases hr with ⟨h, _⟩ | ⟨g2, cap2, cur, hv, _, hg, hc, hx, hs, ht⟩
  · cases h
  cases hv
  refine ⟨fun j hj => ?_, (Array.getElem?_eq_some_iff.1 hg).1⟩
  have hle : m * size ≤ cap * size := Nat.mul_le_mul_right _ hc
  have hj2 : j < xs.length := by rw [← hd]; simpa using hj
  have hcj : cur[j]? = some d[j] := by
    have := congrArg (fun l => l[j]?) ht
    rw [List.getElem?_take, if_pos (by omega), Array.getElem?_toList, ← hd, Array.getElem?_toList, Array.getElem?_eq_getElem hj] at this
    exact this
  refine ⟨?_, ?_⟩
  · rw [cell_of_row w g (0 + j) _ _ _ hg, Nat.zero_add, hcj, getElem!_pos d j hj]; rfl
  · unfold World.frozen?
    rw [hg]
    simp
def OrdLays : Prop := ∀ (x y : itemL.Item) (w : World), Calls Try.prog 46 #[.agg (itC x).toArray, .agg (itC y).toArray] w fun e w' => e = .returned (.int .i64 (ordI x y)) ∧ ∃ q os', w' = grow (w.drewN q) os'
theorem itSortG (hord : OrdLays) (v : Value) (l : List itemL.Item) (w : World) (B : Base) (hm : Mem B [rowO 105 3 v l.length (l.flatMap itC)] w) (hl : l.length < 4611686018427387904) :
    Calls Try.prog 45 #[v, .func (.func 46) #[] #[]] w (MeetsB ⟨fun (_ : Unit) => True, fun _ => .tuple #[], fun _ => [rowO 105 3 v l.length ((sortI l).flatMap itC)]⟩ B) := by
  have ho : w.ownsRow 0 105 3 v l.length (l.flatMap itC) := hm.get (i := 0) rfl
  have ho2 := ho
  rcases ho.2 with ⟨rfl, h0⟩ | ⟨g, cap, cur, rfl, _, hg, hc, hx, hs, ht⟩
  · obtain rfl : l = [] := List.length_eq_zero_iff.1 h0
    refine (AnyF.slices_SortFunc_none sortIt none 0 _ w).mono fun e w' ⟨he, hw⟩ => ⟨(), trivial, he, ?_⟩
    rw [hw]; exact (by simpa [sortI] using hm)
  · obtain ⟨h1, h2⟩ := row_holdsV ho2 (flatK itC 3 l.toArray) (flat_it l)
    have hcmp : CmpLays Try.prog 46 #[] itC 3 ordI g 0 l.toArray.size w := fun m os dk _ x y => by
      have h := hord x y (sortWorldK itC 3 w g 0 m dk os)
      simpa using h
    have h := AnyQ.slices_SortFunc_total sortIt 3 Try.isAgg105 Try.sizeOf105 itC itC_len (fun x v hv => by simp only [itC, List.mem_cons, List.not_mem_nil, or_false] at hv; rcases hv with rfl | rfl | rfl <;> rfl) ordI swo_it 46 #[] g 0 cap l.toArray w EntersC.en hcmp h1 h2 (by simpa using hl) ltI_parts
    have hz : l.toArray.size = l.length := by simp
    rw [hz] at h
    refine h.mono fun e w' ⟨he, n, os, hw⟩ => ⟨(), trivial, he, ?_⟩
    have hlen : (sortI l).length = l.length := sort_len l
    have hq := put_memV hm (flatK itC 3 (sortI l).toArray) (by rw [size_flatK]; simp [hlen]) n os
    rw [flat_it] at hq
    rw [hw]; exact hq
end Go.Proofs.Ytdbghmgajmlkmaa.eng

/- ItF -/
namespace Go.Proofs.Ytdbghmgajmlkmaa.eng
open Go.RowKit kit mix gramL treeL factsL itemL smallL
/-- a slice that the caller keeps as it is -/
def SlB (B : Base) (v : Value) (n : Nat) (xs : List Value) : Prop :=
  ∃ base cap, v = .slice base n cap ∧ n ≤ cap ∧ cap ≤ maxLen ∧ (0 < n → ∃ b off, base = some ⟨b, off, none⟩ ∧ OldB B b ∧ Rd B.w b off xs)
theorem SlB.old {w0 : World} {B : Base} {v : Value} {n : Nat} {xs : List Value} (ho : Old w0 B) (h : Sl w0 v n xs) (hx : 0 < n → xs ≠ []) : SlB B v n xs := by
  obtain ⟨base, cap, rfl, h1, h2, h3⟩ := h
  refine ⟨base, cap, rfl, h1, h2, fun hn => ?_⟩
  obtain ⟨b, off, rfl, hr⟩ := h3 hn
  obtain ⟨x, r, hxs⟩ : ∃ x r, xs = x :: r := List.exists_cons_of_ne_nil (hx hn)
  have h0 := hr 0 x (by rw [hxs]; rfl)
  have hlt : b < w0.heap.size := World.block_lt_of_cell? w0 _ h0
  refine ⟨b, off, rfl, ⟨Nat.lt_of_lt_of_le hlt ho.below.size, ho.free b hlt⟩, fun j v hj => ?_⟩
  have h2 := hr j v hj
  rw [ho.below.cell (show (⟨b, off + j, none⟩ : Addr).block < w0.heap.size from hlt)]
  rw [← h2]
/-- a symbol of the body, read -/
theorem body_at {l : List gramL.Prod} {w0 : World} {W : Base} {vb : Nat → Value} {k dn : Nat} {x : Option Nat} {bb : Option Addr} {cc m : Nat} (ho : Old w0 W) (hv : BodR (fun q => q < w0.heap.size) w0 vb l) (hk : k ≤ l.length) (hx : x.isSome = decide (k = l.length)) (hb : bodV vb k x = .slice bb m cc) (hd : dn < (bodyI l (k : Int)).length) :
    ∃ b off, bb = some ⟨b, off, none⟩ ∧ ∀ (L : List Own) (i : Nat), L[i]? = some (bodO x) → ∀ j u, (symC (bodyI l (k : Int))[dn])[j]? = some u → At W L ⟨b, off + dn * 2 + j, none⟩ u := by
  cases x with
  | some g =>
    have hk : k = l.length := by simpa using hx
    subst hk
    have e : bodyI l (l.length : Int) = [(2, 0)] := by unfold bodyI; rw [if_pos rfl]
    have hb : Value.slice (some ⟨g, 0, none⟩) 1 1 = .slice bb m cc := hb
    cases hb
    refine ⟨g, 0, rfl, fun L i hi j u hj => ?_⟩
    have hd0 : dn = 0 := by rw [e] at hd; simpa using hd
    subst hd0
    simp only [e, List.getElem_cons_zero] at hj
    rw [show 0 + 0 * 2 + j = j by omega]
    exact at_blk hi (by simpa [symC] using hj)
  | none =>
    have hk' : k < l.length := by
      have : ¬ k = l.length := by simpa using hx
      omega
    have e : bodyI l (k : Int) = (prodAt l (k : Int)).2 := by unfold bodyI; rw [if_neg (by omega)]
    have hs := (hv k hk').flat (f := symC) (by decide)
    have hb : vb k = .slice bb m cc := hb
    rw [hb] at hs
    obtain ⟨base, cap, h1, _, _, h3⟩ := hs
    cases h1
    have hd' : dn < (prodAt l (k : Int)).2.length := by rw [← e]; exact hd
    obtain ⟨b, off, rfl, hr⟩ := h3 (by omega)
    refine ⟨b, off, rfl, fun L i _ j u hj => ?_⟩
    simp only [e] at hj
    exact at_elL (W := W) (L := L) SymC_len (off := off) (fun q y hq => at_old0 ho (hr q y hq)) hd' j u hj
theorem looksI_lt (g : Gram) {it : itemL.Item} (h : it.2.2.toNat < 64) : looksI (lkG g) it < 18446744073709551616 := by
  have h1 : lkG g it.1 it.2.1 < 18446744073709551616 := begV_lt (by decide)
  unfold looksI
  split
  · exact Nat.or_lt_two_pow (n := 64) (Nat.xor_lt_two_pow (n := 64) h1 (by decide)) (Nat.pow_lt_pow_right (by decide) h)
  · exact h1
theorem expLook_le {i bits : Nat} {out : List itemL.Item} : ∀ k, (expLook i bits out k).length ≤ out.length + k
  | 0 => Nat.le_refl _
  | k + 1 => by
    rw [expLook]
    have := expLook_le (i := i) (bits := bits) (out := out) k
    have h2 : (more (expLook i bits out k) ((i : Int), 0, (k : Int))).length ≤ (expLook i bits out k).length + 1 := by unfold more; split <;> simp
    split <;> omega
theorem expProd_le {l : List gramL.Prod} {T : Nat} {N : Int} {bits : Nat} {out : List itemL.Item} : ∀ i, (expProd l T N bits out i).length ≤ out.length + i * (T + 1)
  | 0 => by rw [Nat.zero_mul]; exact Nat.le_refl _
  | i + 1 => by
    rw [expProd, Nat.succ_mul]
    have := expProd_le (l := l) (T := T) (N := N) (bits := bits) (out := out) i
    have h2 := expLook_le (i := i) (bits := bits) (out := expProd l T N bits out i) (T + 1)
    split <;> omega
theorem pickMem {L : List Own} {is : List Nat} {o : Own} (h : o ∈ is.filterMap fun i => L[i]?) : o ∈ L := by
  obtain ⟨i, _, hi⟩ := List.mem_filterMap.1 h
  exact List.mem_of_getElem? hi
/-- what the opener owns -/
def opL (g : Gram) (bp : Option Addr) (cp go gm : Nat) (f : RK → Option Value) (c : Nat) : List Own := [blkO go (opC g.terms g.nons (.slice bp g.prods.length cp) gm).toArray 111, mapO restK gm f c]
theorem firstsLe {κ : Type} [DecidableEq κ] : ∀ (l D : List κ), (firsts D l).length ≤ D.length + l.length
  | [], D => by simp [firsts]
  | k :: r, D => by
    rw [firsts]
    have := firstsLe r (if k ∈ D then D else D ++ [k])
    have h2 : (if k ∈ D then D else D ++ [k]).length ≤ D.length + 1 := by split <;> simp
    rw [List.length_cons]; omega
theorem right_ok {l : List gramL.Prod} {T : Nat} {x : itemL.Item} (h : RightI l T x) (hl : l.length ≤ 40) (hw : ∀ q ∈ l, q.2.length ≤ 8) (hT : T ≤ 30) : itK.ok x := by
  obtain ⟨a1, a2, a3, a4, a5, a6⟩ := h
  have := body_len (l := l) (p := x.1) hw
  exact ⟨⟨by omega, by omega⟩, ⟨by omega, by omega⟩, by omega, by omega⟩
def itClS (g : Gram) (T : Nat) (l0 : List itemL.Item) (bp : Option Addr) (cp go gm c : Nat) : Spec ((RK → Option Value) × Nat × Value) :=
  ⟨fun x => CacheOk (lkG g) x.1 ∧ x.2.1 ≤ c + 12000, fun x => x.2.2, fun x => opL g bp cp go gm x.1 x.2.1 ++ [rowO 105 3 x.2.2 (closedI g.prods T (lkG g) l0).length ((closedI g.prods T (lkG g) l0).flatMap itC)]⟩
theorem it_ok {i j : Nat} (hi : i ≤ 1000) (hj : j ≤ 1000) : itK.ok ((i : Int), 0, (j : Int)) := by
  show (-9223372036854775808 ≤ (i : Int) ∧ (i : Int) ≤ 9223372036854775807) ∧ (-9223372036854775808 ≤ (0 : Int) ∧ (0 : Int) ≤ 9223372036854775807) ∧ (-9223372036854775808 ≤ (j : Int) ∧ (j : Int) ≤ 9223372036854775807)
  omega
theorem build_it2 (a c : Int) (w : World) : (Instr.build 105 #[(0, .int .i64 a), (2, .int .i64 c)]).run Try.prog w = .ok (.agg #[.int .i64 a, .int .i64 0, .int .i64 c]) w := by kernel_rfl
attribute [local irreducible] Op.shift Go.bits in
set_option maxHeartbeats 8000000 in
theorem itClosed_calls (g : Gram) (hg : checkG g = 0) (bp : Option Addr) (cp : Nat) (vb : Nat → Value) (w0 : World) (hG : GraR (fun q => q < w0.heap.size) w0 (graV g.terms g.nons (.slice bp g.prods.length cp)) g) (hvb : BodR (fun q => q < w0.heap.size) w0 vb g.prods) (hrp : 0 < g.prods.length → ∃ b off, bp = some ⟨b, off, none⟩ ∧ ∀ i, i < g.prods.length → Rd w0 b (off + i * 2) [.int .i64 (prodAt g.prods (i : Int)).1, vb i])
    (go gm c : Nat) (f : RK → Option Value) (T : Nat) (hTt : g.terms = (T : Int)) (hT : T ≤ 30) (l0 : List itemL.Item) (vl : Value) (h0 : ∀ x ∈ l0, RightI g.prods T x) (hl0 : l0.length ≤ 20000) (hc : CacheOk (lkG g) f) (hcc : c ≤ 900000000000000) (w : World) (B : Base) (ho : Old w0 B) (hvl : SlB B vl l0.length (l0.flatMap itC))
    (hm : Mem B (opL g bp cp go gm f c) w) :
    Calls Try.prog 37 #[.pointer (some ⟨go, 0, none⟩), vl] w (MeetsB (itClS g T l0 bp cp go gm c) B) := by
  obtain ⟨-, -, -, -, hpl, hgb⟩ := checkG_ok hg
  have hwl : ∀ q ∈ g.prods, q.2.length ≤ 8 := fun q hq => (hgb q hq).1
  have hput := fun g5 gm2 g6 b v cn out it hit hp hb hn w' B' hm' => itPut_calls g5 gm2 g6 b v cn out it hit hp hb hn w' B' hm'
  unfold opL at hm
  obtain ⟨bl, cl, rfl, hc1, hc2, hrl⟩ := hvl
  unfold maxLen at hc2
  refine enterB hm (args := [.pointer (some ⟨go, 0, none⟩), .slice bl l0.length cl]) (n := 117) Try.func37 rfl rfl rfl ?_
  repeat(first|refine QV QP ?_|refine QZ ?_|refine qcT rfl ?_|refine qcF rfl ?_|refine E_blockX ?_|refine E_blockO rfl ?_|refine qs rfl rfl rfl rfl rfl rfl ?_|((try refine qg rfl rfl rfl ?_);first|refine QV QP ?_|refine QV QL ?_|refine QV QA ?_|refine QV (rr_nilc rfl) ?_|refine QV QlT ?_|refine QV QlF ?_|refine QV QeT ?_|refine QV QeF ?_|refine QV QnT ?_|refine QV QnF ?_|refine QV QaA ?_))
  refine TL_mapT itK (z := .int .i64 0) rfl fun gm2 => ?_
  conv=>arg 8;simp only[zA,zB,zC,zD,zE,zF,zG,zH,zI,rowS,ret,id_eq]
  repeat(first|refine QV QP ?_|refine QZ ?_|refine qcT rfl ?_|refine qcF rfl ?_|refine E_blockX ?_|refine E_blockO rfl ?_|refine qs rfl rfl rfl rfl rfl rfl ?_|((try refine qg rfl rfl rfl ?_);first|refine QV QP ?_|refine QV QL ?_|refine QV QA ?_|refine QV (rr_nilc rfl) ?_|refine QV QlT ?_|refine QV QlF ?_|refine QV QeT ?_|refine QV QeF ?_|refine QV QnT ?_|refine QV QnF ?_|refine QV QaA ?_))
  refine TL_new rfl fun g5 => ?_
  conv=>arg 8;simp only[zA,zB,zC,zD,zE,zF,zG,zH,zI,rowS,ret,id_eq]
  refine TL_store1 (i := 3) rfl rfl rfl rfl rfl rfl ?_
  conv=>arg 8;simp only[zA,zB,zC,zD,zE,zF,zG,zH,zI,rowS,ret,id_eq]
  repeat(first|refine QV QP ?_|refine QZ ?_|refine qcT rfl ?_|refine qcF rfl ?_|refine E_blockX ?_|refine E_blockO rfl ?_|refine qs rfl rfl rfl rfl rfl rfl ?_|((try refine qg rfl rfl rfl ?_);first|refine QV QP ?_|refine QV QL ?_|refine QV QA ?_|refine QV (rr_nilc rfl) ?_|refine QV QlT ?_|refine QV QlF ?_|refine QV QeT ?_|refine QV QeF ?_|refine QV QnT ?_|refine QV QnF ?_|refine QV QaA ?_))
  refine TL_new rfl fun g6 => ?_
  conv=>arg 8;simp only[zA,zB,zC,zD,zE,zF,zG,zH,zI,rowS,ret,id_eq]
  repeat(first|refine QV QP ?_|refine QZ ?_|refine qcT rfl ?_|refine qcF rfl ?_|refine E_blockX ?_|refine E_blockO rfl ?_|refine qs rfl rfl rfl rfl rfl rfl ?_|((try refine qg rfl rfl rfl ?_);first|refine QV QP ?_|refine QV (rr_func rfl rfl) ?_|refine QV QL ?_|refine QV QA ?_|refine QV (rr_nilc rfl) ?_|refine QV QlT ?_|refine QV QlF ?_|refine QV QeT ?_|refine QV QeF ?_|refine QV QnT ?_|refine QV QnF ?_|refine QV QaA ?_))
  conv => arg 7; simp only [zA, zB, zC, zD, zE, zF, zG, zH, zI, rowS, ret, id_eq]
  refine T_extra (rowO 105 3 (.slice none 0 0) 0 []) (fun k hk => hk.elim (fun h => by cases h) id) (fun w => ⟨by decide, .inl ⟨rfl, rfl⟩⟩) ?_
  refine T_pick [0, 1, 3, 2, 4, 5] (by decide) rfl ?_
  conv => arg 7; simp only [zA, zB, zC, zD, zE, zF, zG, zH, zI, rowS, ret, id_eq]
  refine T_loop (ι := Nat × Value × (itemL.Item → Nat)) (fun (j, _, cn) => j ≤ l0.length ∧ PutOk cn (firsts [] (l0.take j)) (2 * j)) (fun (j, _, _) => [(0, .pointer (some ⟨go, 0, none⟩)), (6, .pointer (some ⟨g6, 0, none⟩)), (7, .func (.func 42) #[] #[.pointer (some ⟨g5, 0, none⟩), .pointer (some ⟨g6, 0, none⟩)]), (18, .slice bl l0.length cl), (19, .int .i64 (l0.length : Int)), (20, .int .i64 (j : Int))])
    (fun (j, v, cn) => [blkO go (opC g.terms g.nons (.slice bp g.prods.length cp) gm).toArray 111, mapO restK gm f c] ++ putL g5 gm2 g6 (2 * j) v cn (firsts [] (l0.take j))) (fun (j, _, _) => l0.length - j) (0, .slice none 0 0, fun _ => 0) ⟨Nat.zero_le _, ⟨fun x => by simp [firsts], fun x => Nat.zero_le _⟩⟩ (by repeat' (first | exact True.intro | refine And.intro rfl ?_)) rfl ?_
  rintro ⟨j, v, cn⟩ ⟨j1, j2⟩
  dsimp only at j1 j2 ⊢
  by_cases c1 : j < l0.length
  · obtain ⟨b, off, rfl, hb1, hb2⟩ := hrl (by omega)
    have hat := fun L => at_elL (W := B) (L := L) itC_len (off := off) (fun q u hq => at_oldB hb1 hb2 q u hq) c1
    have hx0 := h0 l0[j] (List.getElem_mem c1)
    have hxo := right_ok hx0 hpl hwl hT
    have hnd : (firsts [] (l0.take j)).length ≤ j := Nat.le_trans (firstsLe _ _) (by rw [List.length_nil, List.length_take]; omega)
    have hnx : more (firsts [] (l0.take j)) l0[j] = firsts [] (l0.take (j + 1)) := by rw [List.take_succ_eq_append_getElem c1, firsts_snoc]
    have hpo := j2.put l0[j]
    rw [hnx] at hpo
    have hput := fun w' B' hm' => hput g5 gm2 g6 (2 * j) v cn (firsts [] (l0.take j)) l0[j] hxo j2 (by omega) (by omega) w' B' hm'
    rw [hnx] at hput
    generalize firsts [] (l0.take j) = out at *
    generalize hoq : firsts [] (l0.take (j + 1)) = out' at *
    generalize l0[j] = x at *
    repeat(first|refine QV QP ?_|refine QZ ?_|refine qcT rfl ?_|refine qcF rfl ?_|refine E_blockX ?_|refine E_blockO rfl ?_|refine qs rfl rfl rfl rfl rfl rfl ?_|((try refine qg rfl rfl rfl ?_);first|refine QV QP ?_|refine QV (rr_idxc Und.eq TyC.ty rfl rfl c1) ?_|refine QV (rr_loadN TyC.ty rfl (itC_len x) (hat _)) ?_|refine QV QL ?_|refine QV QA ?_|refine QV (rr_nilc rfl) ?_|refine QV QlT ?_|refine QV QlF ?_|refine QV QeT ?_|refine QV QeF ?_|refine QV QnT ?_|refine QV QnF ?_|refine QV QaA ?_))
    refine TL_new rfl fun g9 => ?_
    conv=>arg 8;simp only[zA,zB,zC,zD,zE,zF,zG,zH,zI,rowS,ret,id_eq]
    refine TL_storeB (i := 6) (cs' := (itC x).toArray) rfl rfl rfl rfl rfl rfl ?_
    conv=>arg 8;simp only[zA,zB,zC,zD,zE,zF,zG,zH,zI,rowS,ret,id_eq]
    repeat(first|refine QV QP ?_|refine QZ ?_|refine qcT rfl ?_|refine qcF rfl ?_|refine E_blockX ?_|refine E_blockO rfl ?_|refine qs rfl rfl rfl rfl rfl rfl ?_|((try refine qg rfl rfl rfl ?_);first|refine QV QP ?_|refine QV (rr_loadB (i := 6) TyC.ty rfl rfl rfl) ?_|refine QV QL ?_|refine QV QA ?_|refine QV (rr_nilc rfl) ?_|refine QV QlT ?_|refine QV QlF ?_|refine QV QeT ?_|refine QV QeF ?_|refine QV QnT ?_|refine QV QnF ?_|refine QV QaA ?_))
    refine TL_callB [2, 3, 4, 5] [0, 1, 6] (by decide) rfl rfl (he1c EntersC.en rfl rfl) (fun w hm hb => hput w _ hb) rfl rfl rfl ?_
    intro v' _
    conv=>arg 8;simp only[zA,zB,zC,zD,zE,zF,zG,zH,zI,rowS,ret,id_eq]
    repeat(first|refine QV QP ?_|refine QZ ?_|refine qcT rfl ?_|refine qcF rfl ?_|refine E_blockX ?_|refine E_blockO rfl ?_|refine qs rfl rfl rfl rfl rfl rfl ?_|((try refine qg rfl rfl rfl ?_);first|refine QV QP ?_|refine QV QL ?_|refine QV QA ?_|refine QV (rr_nilc rfl) ?_|refine QV QlT ?_|refine QV QlF ?_|refine QV QeT ?_|refine QV QeF ?_|refine QV QnT ?_|refine QV QnF ?_|refine QV QaA ?_))
    refine E_pick [0, 1, 3, 4, 5, 6] (by decide) rfl ?_
    exact E_round (j + 1, v', itUp cn x) ⟨by show j + 1 ≤ l0.length; omega, by show PutOk _ (firsts [] (l0.take (j + 1))) _; rw [hoq]; exact hpo⟩ (by show l0.length - (j + 1) < l0.length - j; omega) (by repeat' (first | exact True.intro | refine And.intro rfl ?_)) (by dsimp only; rw [hoq]; rfl)
  · obtain rfl : j = l0.length := by omega
    rw [List.take_length] at j2
    have hfl : (firsts [] l0).length ≤ 20000 := Nat.le_trans (firstsLe _ _) (by rw [List.length_nil]; omega)
    clear hrl
    repeat(first|refine QV QP ?_|refine QZ ?_|refine qcT rfl ?_|refine qcF rfl ?_|refine E_blockX ?_|refine E_blockO rfl ?_|refine qs rfl rfl rfl rfl rfl rfl ?_|((try refine qg rfl rfl rfl ?_);first|refine QV QP ?_|refine QV QL ?_|refine QV QA ?_|refine QV (rr_nilc rfl) ?_|refine QV QlT ?_|refine QV QlF ?_|refine QV QeT ?_|refine QV QeF ?_|refine QV QnT ?_|refine QV QnF ?_|refine QV QaA ?_))
    conv => arg 7; simp only [zA, zB, zC, zD, zE, zF, zG, zH, zI, rowS, ret, id_eq, List.take_length, putL, List.cons_append, List.nil_append]
    refine T_loop (ι := Nat × List itemL.Item × (RK → Option Value) × Nat × Value × (itemL.Item → Nat) × Nat) (fun (n, out, f', c', _, cn', b) => WkI g.prods T (lkG g) l0 n out ∧ workI g.prods T (lkG g) (12000 - n) n out = workI g.prods T (lkG g) 12000 0 (firsts [] l0) ∧ CacheOk (lkG g) f' ∧ c' ≤ c + n ∧ PutOk cn' out b ∧ b ≤ 40000 + 2480 * n)
      (fun (n, _, _, _, _, _, _) => [(0, .pointer (some ⟨go, 0, none⟩)), (6, .pointer (some ⟨g6, 0, none⟩)), (7, .func (.func 42) #[] #[.pointer (some ⟨g5, 0, none⟩), .pointer (some ⟨g6, 0, none⟩)]), (10, .int .i64 (n : Int))])
      (fun (_, out, f', c', v', cn', b) => [blkO go (opC g.terms g.nons (.slice bp g.prods.length cp) gm).toArray 111, mapO restK gm f' c', blkO g5 #[.map (some gm2)] 113, mapT itK gm2 (.int .i64 0) (itCnt cn') b, blkO g6 #[v'] 99, rowO 105 3 v' out.length (out.flatMap itC)]) (fun (n, _) => 12000 - n) (0, firsts [] l0, f, c, v, cn, 2 * l0.length) ⟨wk_start l0, rfl, hc, Nat.le_refl _, j2, by omega⟩ (by repeat' (first | exact True.intro | refine And.intro rfl ?_)) rfl ?_
    rintro ⟨n, out, f', c', v', cn', b⟩ ⟨i1, i2, i3, i4, i5, i6⟩
    dsimp only at i1 i2 i3 i4 i5 i6 ⊢
    have hfew := items_few hwl hpl hT i1.nd fun x hx => right_cl h0 (i1.cl x hx)
    refine T_know (i := 5) rfl row_slm fun hrow => ?_
    obtain ⟨bv, cv, rfl, -, hab⟩ := hrow
    by_cases c2 : n < out.length
    · obtain ⟨gz, rfl⟩ := hab (by omega)
      have hcl := i1.cl out[n] (List.getElem_mem c2)
      have hxr := right_cl h0 hcl
      have hat := fun (L : List Own) (i : Nat) (hL : L[i]? = some (rowO 105 3 (.slice (some ⟨gz, 0, none⟩) out.length cv) out.length (out.flatMap itC))) => at_rowel (W := B) itC_len hL c2
      have hwx : workI g.prods T (lkG g) (12000 - (n + 1)) (n + 1) (expI g.prods T (lkG g) out[n] out) = workI g.prods T (lkG g) 12000 0 (firsts [] l0) := by
        rw [← i2, show 12000 - n = (12000 - (n + 1)) + 1 by omega, workI, if_pos c2, List.getD_eq_getElem?_getD, List.getElem?_eq_getElem c2]; rfl
      have hwk := wk_step i1 c2
      clear i2 hcl
      generalize hxx : out[n] = x at *
      obtain ⟨p, d, lo⟩ := x
      have hxr2 := hxr
      obtain ⟨r1, r2, r3, r4, r5, r6⟩ := hxr2
      dsimp only at r1 r2 r3 r4 r5 r6
      obtain ⟨k, rfl⟩ := Int.eq_ofNat_of_zero_le r1
      obtain ⟨dn, rfl⟩ := Int.eq_ofNat_of_zero_le r3
      obtain ⟨ln, rfl⟩ := Int.eq_ofNat_of_zero_le r5
      have hk : k ≤ g.prods.length := by omega
      have hbd := fun w' (hm' : Mem B [] w') => itBody_calls g.terms g.nons bp cp g.prods vb w0 w' B k hk ho hm' (fun i hi => let ⟨b, c, h, _⟩ := hvb i hi; ⟨b, _, c, h⟩) hrp
      repeat(first|refine QV QP ?_|refine QZ ?_|refine qcT rfl ?_|refine qcF rfl ?_|refine E_blockX ?_|refine E_blockO rfl ?_|refine qs rfl rfl rfl rfl rfl rfl ?_|((try refine qg rfl rfl rfl ?_);first|refine QV QP ?_|refine QV (rr_load1 (v := .slice (some ⟨gz, 0, none⟩) out.length cv) TyC.ty rfl (at_blk (i := 4) rfl rfl)) ?_|refine QV (rr_rowlen (i := 5) Und.eq rfl rfl) ?_|refine QV QL ?_|refine QV QA ?_|refine QV (rr_nilc rfl) ?_|refine QV QlT ?_|refine QV QlF ?_|refine QV QeT ?_|refine QV QeF ?_|refine QV QnT ?_|refine QV QnF ?_|refine QV QaA ?_))
      refine T_ord ([blkO go (opC g.terms g.nons (.slice bp g.prods.length cp) gm).toArray 111, blkO g6 #[.slice (some ⟨gz, 0, none⟩) out.length cv] 99, rowO 105 3 (.slice (some ⟨gz, 0, none⟩) out.length cv) out.length (out.flatMap itC)]) (.calm 0 (.calm 1 (.calm 2 (.calm 3 (.calm 4 (.calm 5 (.calm 6 (.calm 7 (.calm 8 (.one 9 (.calm 10 (.done)))))))))))) (sub_pick [0, 4, 5] (by decide) rfl) (by kernel_rfl) (by kernel_rfl) (by intro c a d v w h; cases d <;> exact h) ?_
      repeat(first|((first|refine TW_plain rfl rfl ?_|refine TW_gmet rfl rfl rfl rfl ?_);first|refine QW QP ?_|refine QW (rr_nilc rfl) ?_|refine QW (rr_loadN TyC.ty rfl (cs := [.int .i64 g.terms, .int .i64 g.nons, .slice bp g.prods.length cp]) rfl (fun j v h => at_blk (i := 0) rfl (op_gram h))) ?_|refine QW (rr_load1 (v := .slice (some ⟨gz, 0, none⟩) out.length cv) TyC.ty rfl (at_blk (i := 1) rfl rfl)) ?_|refine QW (rr_idxc Und.eq TyC.ty rfl rfl c2) ?_|refine QW (rr_load1 (v := .int .i64 (k : Int)) TyC.ty rfl (hat _ 2 rfl 0 _ rfl)) ?_|refine QW QL ?_|refine QW QA ?_|refine QW (rr_nilc rfl) ?_|refine QW QlT ?_|refine QW QlF ?_|refine QW QeT ?_|refine QW QeF ?_|refine QW QnT ?_|refine QW QnF ?_|refine QW QaA ?_)|refine TW_skip rfl rfl rfl rfl rfl rfl rfl ?_|refine TW_done ?_)
      refine TW_one rfl ?_
      refine TL_call (he2 EntersC.en rfl rfl rfl) (fun w hm => hbd _ (hm.pick [] (by decide) rfl)) rfl rfl rfl ?_
      rintro xb hxb
      conv=>arg 8;simp only[zA,zB,zC,zD,zE,zF,zG,zH,zI,rowS,ret,id_eq, bodyS]
      conv => arg 7; simp only [bodyS]
      obtain ⟨bb, cc, hbv, hlc, -⟩ := body_slL (W := B) (i := 6) (L := [blkO go (opC g.terms g.nons (.slice bp g.prods.length cp) gm).toArray 111, mapO restK gm f' c', blkO g5 #[.map (some gm2)] 113, mapT itK gm2 (.int .i64 0) (itCnt cn') b, blkO g6 #[.slice (some ⟨gz, 0, none⟩) out.length cv] 99, rowO 105 3 (.slice (some ⟨gz, 0, none⟩) out.length cv) out.length (out.flatMap itC), bodO xb]) ho hvb hk hxb rfl
      have hsl := fun (L : List Own) (i : Nat) (hi : L[i]? = some (bodO xb)) => (body_slL (W := B) (L := L) ho hvb hk hxb hi)
      rw [hbv] at hsl ⊢
      have hb8 := body_len (l := g.prods) (p := (k : Int)) hwl
      refine TW_on (sub_pick [0, 4, 5] (by decide) rfl) ?_
      repeat(first|((first|refine TW_plain rfl rfl ?_|refine TW_gmet rfl rfl rfl rfl ?_);first|refine QW QP ?_|refine QW QL ?_|refine QW QA ?_|refine QW (rr_nilc rfl) ?_|refine QW QlT ?_|refine QW QlF ?_|refine QW QeT ?_|refine QW QeF ?_|refine QW QnT ?_|refine QW QnF ?_|refine QW QaA ?_)|refine TW_skip rfl rfl rfl rfl rfl rfl rfl ?_|refine TW_done ?_)
      clear hbd
      by_cases c3 : dn = (bodyI g.prods (k : Int)).length
      · repeat(first|refine QV QP ?_|refine QZ ?_|refine qcT rfl ?_|refine qcF rfl ?_|refine E_blockX ?_|refine E_blockO rfl ?_|refine qs rfl rfl rfl rfl rfl rfl ?_|((try refine qg rfl rfl rfl ?_);first|refine QV QP ?_|refine QV (rr_load1 (v := .slice (some ⟨gz, 0, none⟩) out.length cv) TyC.ty rfl (at_blk (i := 4) rfl rfl)) ?_|refine QV (rr_idxc Und.eq TyC.ty rfl rfl c2) ?_|refine QV (rr_load1 (v := .int .i64 (dn : Int)) TyC.ty rfl (hat _ 5 rfl 1 _ rfl)) ?_|refine QV (rr_eql (b := true) rfl rfl (decide_eq_true (by omega))) ?_|refine QV QL ?_|refine QV QA ?_|refine QV (rr_nilc rfl) ?_|refine QV QlT ?_|refine QV QlF ?_|refine QV QeT ?_|refine QV QeF ?_|refine QV QnT ?_|refine QV QnF ?_|refine QV QaA ?_))
        have hexp : expI g.prods T (lkG g) ((k : Int), (dn : Int), (ln : Int)) out = out := by
          unfold expI nextS
          dsimp only
          rw [Int.toNat_natCast, List.getElem?_eq_none (by omega)]
        rw [hexp] at hwk hwx
        refine E_pick [0, 1, 2, 3, 4, 5] (by decide) rfl ?_
        exact E_round (n + 1, out, f', c', .slice (some ⟨gz, 0, none⟩) out.length cv, cn', b) ⟨hwk, hwx, i3, by show c' ≤ c + (n + 1); omega, i5, by show b ≤ 40000 + 2480 * (n + 1); omega⟩ (by show 12000 - (n + 1) < 12000 - n; omega) (by repeat' (first | exact True.intro | refine And.intro rfl ?_)) rfl
      · have hlt : dn < (bodyI g.prods (k : Int)).length := by omega
        obtain ⟨b2, o2, rfl, hba⟩ := body_at ho hvb hk hxb hbv hlt
        have hnx : nextS g.prods ((k : Int), (dn : Int), (ln : Int)) = some (bodyI g.prods (k : Int))[dn] := by
          unfold nextS
          dsimp only
          rw [Int.toNat_natCast, List.getElem?_eq_getElem hlt]
        generalize hyy : (bodyI g.prods (k : Int))[dn] = y at *
        obtain ⟨yk, yn⟩ := y
        by_cases c4 : yk = 2
        · subst c4
          have hexp : expI g.prods T (lkG g) ((k : Int), (dn : Int), (ln : Int)) out = expProd g.prods T yn (looksI (lkG g) ((k : Int), (dn : Int), (ln : Int))) out g.prods.length := by
            unfold expI
            rw [hnx]
            dsimp only
            rw [if_pos rfl]
          rw [hexp] at hwk hwx
          repeat(first|refine QV QP ?_|refine QZ ?_|refine qcT rfl ?_|refine qcF rfl ?_|refine E_blockX ?_|refine E_blockO rfl ?_|refine qs rfl rfl rfl rfl rfl rfl ?_|((try refine qg rfl rfl rfl ?_);first|refine QV QP ?_|refine QV (rr_load1 (v := .slice (some ⟨gz, 0, none⟩) out.length cv) TyC.ty rfl (at_blk (i := 4) rfl rfl)) ?_|refine QV (rr_idxc Und.eq TyC.ty rfl rfl c2) ?_|refine QV (rr_idxc Und.eq TyC.ty rfl rfl hlt) ?_|refine QV (rr_load1 (v := .int .i64 (dn : Int)) TyC.ty rfl (hat _ 5 rfl 1 _ rfl)) ?_|refine QV (rr_eql (b := false) rfl rfl (decide_eq_false (by omega))) ?_|refine QV (rr_load1 (v := .int .i64 2) TyC.ty rfl (hba _ 6 rfl 0 _ rfl)) ?_|refine QV (rr_neq (b := false) rfl rfl (decide_eq_false (fun h => h rfl))) ?_|refine QV (rr_loadN (cs := itC ((k : Int), (dn : Int), (ln : Int))) TyC.ty rfl rfl (hat _ 5 rfl)) ?_|refine QV QL ?_|refine QV QA ?_|refine QV (rr_nilc rfl) ?_|refine QV QlT ?_|refine QV QlF ?_|refine QV QeT ?_|refine QV QeF ?_|refine QV QnT ?_|refine QV QnF ?_|refine QV QaA ?_))
          refine TL_callB [0, 1] [2, 3, 4, 5, 6] (by decide) rfl rfl (he2 EntersC.en rfl rfl rfl) (fun w hm hb => looks_calls g hg bp cp vb w0 hG hvb hrp go gm c' f' ((k : Int), (dn : Int), (ln : Int)) T hT hxr (by dsimp only; rw [Int.toNat_natCast]; exact hlt) i3 (by omega) w _ (ho.on hm fun o h => pickMem h) hb) rfl rfl rfl ?_
          rintro ⟨f2, c2'⟩ ⟨hf2, hc2'⟩
          dsimp only at hf2 hc2'
          conv=>arg 8;simp only[zA,zB,zC,zD,zE,zF,zG,zH,zI,rowS,ret,id_eq]
          have hblt := looksI_lt g (it := ((k : Int), (dn : Int), (ln : Int))) (by show ((ln : Int)).toNat < 64; omega)
          generalize looksI (lkG g) ((k : Int), (dn : Int), (ln : Int)) = bits at *
          repeat(first|refine QV QP ?_|refine QZ ?_|refine qcT rfl ?_|refine qcF rfl ?_|refine E_blockX ?_|refine E_blockO rfl ?_|refine qs rfl rfl rfl rfl rfl rfl ?_|((try refine qg rfl rfl rfl ?_);first|refine QV QP ?_|refine QV (rr_load1 (v := .slice bp g.prods.length cp) TyC.ty rfl (at_blk (i := 5) rfl rfl)) ?_|refine QV QL ?_|refine QV QA ?_|refine QV (rr_nilc rfl) ?_|refine QV QlT ?_|refine QV QlF ?_|refine QV QeT ?_|refine QV QeF ?_|refine QV QnT ?_|refine QV QnF ?_|refine QV QaA ?_))
          refine T_pick [5, 6, 0, 1, 2, 3, 4] (by decide) rfl ?_
          conv => arg 7; simp only [zA, zB, zC, zD, zE, zF, zG, zH, zI, rowS, ret, id_eq]
          refine T_loop (ι := Nat × Value × (itemL.Item → Nat) × Nat) (fun (i, _, cn2, b3) => i ≤ g.prods.length ∧ PutOk cn2 (expProd g.prods T yn bits out i) b3 ∧ b3 ≤ b + 62 * i)
            (fun (i, _, _, _) => [(0, .pointer (some ⟨go, 0, none⟩)), (6, .pointer (some ⟨g6, 0, none⟩)), (7, .func (.func 42) #[] #[.pointer (some ⟨g5, 0, none⟩), .pointer (some ⟨g6, 0, none⟩)]), (10, .int .i64 (n : Int)), (11, .slice (some ⟨b2, o2, none⟩) (bodyI g.prods (k : Int)).length cc), (12, bitV bits), (74, .slice bp g.prods.length cp), (75, .int .i64 (g.prods.length : Int)), (76, .int .i64 (i : Int))])
            (fun (i, v2, cn2, b3) => [blkO go (opC g.terms g.nons (.slice bp g.prods.length cp) gm).toArray 111, mapO restK gm f2 c2', blkO g5 #[.map (some gm2)] 113, mapT itK gm2 (.int .i64 0) (itCnt cn2) b3, blkO g6 #[v2] 99, rowO 105 3 v2 (expProd g.prods T yn bits out i).length ((expProd g.prods T yn bits out i).flatMap itC), bodO xb]) (fun (i, _) => g.prods.length - i) (0, .slice (some ⟨gz, 0, none⟩) out.length cv, cn', b) ⟨Nat.zero_le _, i5, by omega⟩ (by repeat' (first | exact True.intro | refine And.intro rfl ?_)) rfl ?_
          rintro ⟨i, v2, cn2, b3⟩ ⟨p1, p2, p3⟩
          dsimp only at p1 p2 p3 ⊢
          by_cases c5 : i < g.prods.length
          · obtain ⟨E, hE⟩ := expProd_pre (l := g.prods) (T := T) yn bits out i
            have hnd := expProd_le (l := g.prods) (T := T) (N := yn) (bits := bits) (out := out) i
            have hnx2 : expProd g.prods T yn bits out (i + 1) = if (prodAt g.prods (i : Int)).1 = yn then expLook i bits (expProd g.prods T yn bits out i) (T + 1) else expProd g.prods T yn bits out i := rfl
            have hm30 : i * (T + 1) ≤ 40 * 31 := Nat.mul_le_mul (by omega) (by omega)
            generalize hou : expProd g.prods T yn bits out i = ou at *
            have hno : n < ou.length := by rw [hE, List.length_append]; omega
            have hox : ou[n] = ((k : Int), (dn : Int), (ln : Int)) := by
              subst hE
              rw [List.getElem_append_left c2]; exact hxx
            refine T_know (i := 5) rfl row_slm fun hrow => ?_
            obtain ⟨bv2, cv2, rfl, -, hab2⟩ := hrow
            obtain ⟨gz2, rfl⟩ := hab2 (by omega)
            have hat2 := fun (L : List Own) (i : Nat) (hL : L[i]? = some (rowO 105 3 (.slice (some ⟨gz2, 0, none⟩) ou.length cv2) ou.length (ou.flatMap itC))) => at_rowel (W := B) itC_len hL hno
            rw [hox] at hat2
            obtain ⟨pb, po, rfl, hpr⟩ := hrp (by omega)
            have hpi := hpr i c5
            have hvo : (vb i).oneCell' = true := slf_one (hvb i c5)
            generalize hhd : (prodAt g.prods (i : Int)).1 = hd at *
            generalize vb i = vbi at hpi hvo
            repeat(first|refine QV QP ?_|refine QZ ?_|refine qcT rfl ?_|refine qcF rfl ?_|refine E_blockX ?_|refine E_blockO rfl ?_|refine qs rfl rfl rfl rfl rfl rfl ?_|((try refine qg rfl rfl rfl ?_);first|refine QV QP ?_|refine QV (rr_idxc Und.eq TyC.ty rfl rfl c5) ?_|refine QV (rr_loadN TyC.ty rfl (cs := [.int .i64 hd, vbi]) rfl (fun j v h => at_old0 ho (hpi j v h))) ?_|refine QV QL ?_|refine QV QA ?_|refine QV (rr_nilc rfl) ?_|refine QV QlT ?_|refine QV QlF ?_|refine QV QeT ?_|refine QV QeF ?_|refine QV QnT ?_|refine QV QnF ?_|refine QV QaA ?_))
            refine TL_new rfl fun g14 => ?_
            conv=>arg 8;simp only[zA,zB,zC,zD,zE,zF,zG,zH,zI,rowS,ret,id_eq]
            repeat(first|refine QV QP ?_|refine QZ ?_|refine qcT rfl ?_|refine qcF rfl ?_|refine E_blockX ?_|refine E_blockO rfl ?_|refine qs rfl rfl rfl rfl rfl rfl ?_|((try refine qg rfl rfl rfl ?_);first|refine QV QP ?_|refine QV QL ?_|refine QV QA ?_|refine QV (rr_nilc rfl) ?_|refine QV QlT ?_|refine QV QlF ?_|refine QV QeT ?_|refine QV QeF ?_|refine QV QnT ?_|refine QV QnF ?_|refine QV QaA ?_))
            refine TL_storeB (i := 7) (cs' := #[.int .i64 hd, vbi]) rfl rfl rfl rfl (by simp only [List.all_cons, List.all_nil, hvo]; rfl) rfl ?_
            conv=>arg 8;simp only[zA,zB,zC,zD,zE,zF,zG,zH,zI,rowS,ret,id_eq]
            repeat(first|refine QV QP ?_|refine QZ ?_|refine qcT rfl ?_|refine qcF rfl ?_|refine E_blockX ?_|refine E_blockO rfl ?_|refine qs rfl rfl rfl rfl rfl rfl ?_|((try refine qg rfl rfl rfl ?_);first|refine QV QP ?_|refine QV QL ?_|refine QV QA ?_|refine QV (rr_nilc rfl) ?_|refine QV QlT ?_|refine QV QlF ?_|refine QV QeT ?_|refine QV QeF ?_|refine QV QnT ?_|refine QV QnF ?_|refine QV QaA ?_))
            refine T_ord ([blkO g14 #[.int .i64 hd, vbi] 53, blkO g6 #[.slice (some ⟨gz2, 0, none⟩) ou.length cv2] 99, rowO 105 3 (.slice (some ⟨gz2, 0, none⟩) ou.length cv2) ou.length (ou.flatMap itC), bodO xb]) (.calm 0 (.calm 1 (.calm 2 (.calm 3 (.calm 4 (.calm 5 (.calm 6 (.calm 7 (.calm 8 (.calm 9 (.calm 10 (.calm 11 (.done))))))))))))) (sub_pick [7, 4, 5, 6] (by decide) rfl) (by kernel_rfl) (by kernel_rfl) (by intro c a d v w h; cases d <;> exact h) ?_
            by_cases c6 : hd = yn
            · rw [if_pos c6] at hnx2
              repeat(first|((first|refine TW_plain rfl rfl ?_|refine TW_gmet rfl rfl rfl rfl ?_);first|refine QW QP ?_|refine QW (rr_load1 (v := .int .i64 hd) TyC.ty rfl (at_blk (i := 0) rfl rfl)) ?_|refine QW (rr_load1 (v := .slice (some ⟨gz2, 0, none⟩) ou.length cv2) TyC.ty rfl (at_blk (i := 1) rfl rfl)) ?_|refine QW (rr_idxc Und.eq TyC.ty rfl rfl hno) ?_|refine QW (rr_load1 (v := .int .i64 (dn : Int)) TyC.ty rfl (hat2 _ 2 rfl 1 _ rfl)) ?_|refine QW (rr_idxc Und.eq TyC.ty rfl rfl hlt) ?_|refine QW (rr_load1 (v := .int .i64 yn) TyC.ty rfl (hba _ 3 rfl 1 _ rfl)) ?_|refine QW (rr_neq (b := false) rfl rfl (decide_eq_false (fun h => h c6))) ?_|refine QW QL ?_|refine QW QA ?_|refine QW (rr_nilc rfl) ?_|refine QW QlT ?_|refine QW QlF ?_|refine QW QeT ?_|refine QW QeF ?_|refine QW QnT ?_|refine QW QnF ?_|refine QW QaA ?_)|refine TW_skip rfl rfl rfl rfl rfl rfl rfl ?_|refine TW_done ?_)
              repeat(first|refine QV QP ?_|refine QZ ?_|refine qcT rfl ?_|refine qcF rfl ?_|refine E_blockX ?_|refine E_blockO rfl ?_|refine qs rfl rfl rfl rfl rfl rfl ?_|((try refine qg rfl rfl rfl ?_);first|refine QV QP ?_|refine QV (rr_load1 (v := .int .i64 g.terms) TyC.ty rfl (at_blk (i := 0) rfl rfl)) ?_|refine QV (rr_add64 (r := ((T + 1 : Nat) : Int)) rfl rfl (by omega) (by omega) (by omega)) ?_|refine QV QL ?_|refine QV QA ?_|refine QV (rr_nilc rfl) ?_|refine QV QlT ?_|refine QV QlF ?_|refine QV QeT ?_|refine QV QeF ?_|refine QV QnT ?_|refine QV QnF ?_|refine QV QaA ?_))
              refine T_pick [0, 1, 2, 3, 4, 5, 6] (by decide) rfl ?_
              conv => arg 7; simp only [zA, zB, zC, zD, zE, zF, zG, zH, zI, rowS, ret, id_eq]
              refine T_loop (ι := Nat × Value × (itemL.Item → Nat) × Nat) (fun (j, _, cn3, b4) => j ≤ T + 1 ∧ PutOk cn3 (expLook i bits ou j) b4 ∧ b4 ≤ b3 + 2 * j)
                (fun (j, _, _, _) => [(0, .pointer (some ⟨go, 0, none⟩)), (6, .pointer (some ⟨g6, 0, none⟩)), (7, .func (.func 42) #[] #[.pointer (some ⟨g5, 0, none⟩), .pointer (some ⟨g6, 0, none⟩)]), (10, .int .i64 (n : Int)), (11, .slice (some ⟨b2, o2, none⟩) (bodyI g.prods (k : Int)).length cc), (12, bitV bits), (13, .int .i64 (i : Int)), (74, .slice (some ⟨pb, po, none⟩) g.prods.length cp), (75, .int .i64 (g.prods.length : Int)), (76, .int .i64 (i : Int)), (98, .int .i64 ((T + 1 : Nat) : Int)), (99, .int .i64 (j : Int))])
                (fun (j, v3, cn3, b4) => [blkO go (opC g.terms g.nons (.slice (some ⟨pb, po, none⟩) g.prods.length cp) gm).toArray 111, mapO restK gm f2 c2', blkO g5 #[.map (some gm2)] 113, mapT itK gm2 (.int .i64 0) (itCnt cn3) b4, blkO g6 #[v3] 99, rowO 105 3 v3 (expLook i bits ou j).length ((expLook i bits ou j).flatMap itC), bodO xb]) (fun (j, _) => T + 1 - j) (0, .slice (some ⟨gz2, 0, none⟩) ou.length cv2, cn2, b3) ⟨Nat.zero_le _, p2, by omega⟩ (by repeat' (first | exact True.intro | refine And.intro rfl ?_)) rfl ?_
              rintro ⟨j, v3, cn3, b4⟩ ⟨s1, s2, s3⟩
              dsimp only at s1 s2 s3 ⊢
              by_cases c7 : j < T + 1
              · have hle6 := expLook_le (i := i) (bits := bits) (out := ou) j
                have hnx3 : expLook i bits ou (j + 1) = if bits.testBit j = true then more (expLook i bits ou j) ((i : Int), 0, (j : Int)) else expLook i bits ou j := rfl
                have hpo := s2.put ((i : Int), 0, (j : Int))
                have hdv : bits / 2 ^ j ≤ bits := Nat.div_le_self _ _
                have ha1 := and1 (y := bits / 2 ^ j) (by omega)
                have hs1 : ∀ w, (Op.shift .shr .u64 (bits : Int) .i64 (j : Int)).run Try.prog w = .ok (.int .u64 ((bits / 2 ^ j : Nat) : Int)) w := fun w => shrU2 bits j 64 .u64 .i64 rfl (by omega) w
                have hbd := bit_dec bits j
                generalize hol : expLook i bits ou j = ol at *
                generalize bits / 2 ^ j = D1 at *
                by_cases c8 : bits.testBit j = true
                · rw [if_pos c8] at hnx3
                  have hb1 : D1 % 2 = 1 := by rw [c8] at hbd; simpa using hbd
                  repeat(first|refine QV QP ?_|refine QZ ?_|refine qcT rfl ?_|refine qcF rfl ?_|refine E_blockX ?_|refine E_blockO rfl ?_|refine qs rfl rfl rfl rfl rfl rfl ?_|((try refine qg rfl rfl rfl ?_);first|refine QV QP ?_|refine QV (rr_shr rfl rfl hs1) ?_|refine QV (rr_and rfl rfl ha1) ?_|refine QV (rr_eql (b := true) rfl rfl (decide_eq_true (by omega))) ?_|refine QV (rr_build rfl (build_it2 _ _)) ?_|refine QV QL ?_|refine QV QA ?_|refine QV (rr_nilc rfl) ?_|refine QV QlT ?_|refine QV QlF ?_|refine QV QeT ?_|refine QV QeF ?_|refine QV QnT ?_|refine QV QnF ?_|refine QV QaA ?_))
                  refine TL_callB [2, 3, 4, 5] [0, 1, 6] (by decide) rfl rfl (he1c EntersC.en rfl rfl) (fun w hm hb => hput g5 gm2 g6 b4 v3 cn3 ol ((i : Int), 0, (j : Int)) (it_ok (by omega) (by omega)) s2 (by omega) (by omega) w _ hb) rfl rfl rfl ?_
                  intro v4 _
                  conv=>arg 8;simp only[zA,zB,zC,zD,zE,zF,zG,zH,zI,rowS,ret,id_eq, putL]
                  repeat(first|refine QV QP ?_|refine QZ ?_|refine qcT rfl ?_|refine qcF rfl ?_|refine E_blockX ?_|refine E_blockO rfl ?_|refine qs rfl rfl rfl rfl rfl rfl ?_|((try refine qg rfl rfl rfl ?_);first|refine QV QP ?_|refine QV QL ?_|refine QV QA ?_|refine QV (rr_nilc rfl) ?_|refine QV QlT ?_|refine QV QlF ?_|refine QV QeT ?_|refine QV QeF ?_|refine QV QnT ?_|refine QV QnF ?_|refine QV QaA ?_))
                  refine E_pick [0, 1, 3, 4, 5, 6, 2] (by decide) rfl ?_
                  exact E_round (j + 1, v4, itUp cn3 ((i : Int), 0, (j : Int)), b4 + 2) ⟨by show j + 1 ≤ T + 1; omega, by show PutOk _ (expLook i bits ou (j + 1)) _; rw [hnx3]; exact hpo, by show b4 + 2 ≤ b3 + 2 * (j + 1); omega⟩ (by show T + 1 - (j + 1) < T + 1 - j; omega) (by repeat' (first | exact True.intro | refine And.intro rfl ?_)) (by dsimp only; rw [hnx3]; rfl)
                · rw [if_neg c8] at hnx3
                  have hb1 : ¬ D1 % 2 = 1 := by rw [Bool.eq_false_iff.2 c8] at hbd; simpa using hbd
                  repeat(first|refine QV QP ?_|refine QZ ?_|refine qcT rfl ?_|refine qcF rfl ?_|refine E_blockX ?_|refine E_blockO rfl ?_|refine qs rfl rfl rfl rfl rfl rfl ?_|((try refine qg rfl rfl rfl ?_);first|refine QV QP ?_|refine QV (rr_shr rfl rfl hs1) ?_|refine QV (rr_and rfl rfl ha1) ?_|refine QV (rr_eql (b := false) rfl rfl (decide_eq_false (by omega))) ?_|refine QV QL ?_|refine QV QA ?_|refine QV (rr_nilc rfl) ?_|refine QV QlT ?_|refine QV QlF ?_|refine QV QeT ?_|refine QV QeF ?_|refine QV QnT ?_|refine QV QnF ?_|refine QV QaA ?_))
                  exact E_round (j + 1, v3, cn3, b4) ⟨by show j + 1 ≤ T + 1; omega, by show PutOk _ (expLook i bits ou (j + 1)) _; rw [hnx3]; exact s2, by show b4 ≤ b3 + 2 * (j + 1); omega⟩ (by show T + 1 - (j + 1) < T + 1 - j; omega) (by repeat' (first | exact True.intro | refine And.intro rfl ?_)) (by dsimp only; rw [hnx3])
              · obtain rfl : j = T + 1 := by omega
                repeat(first|refine QV QP ?_|refine QZ ?_|refine qcT rfl ?_|refine qcF rfl ?_|refine E_blockX ?_|refine E_blockO rfl ?_|refine qs rfl rfl rfl rfl rfl rfl ?_|((try refine qg rfl rfl rfl ?_);first|refine QV QP ?_|refine QV QL ?_|refine QV QA ?_|refine QV (rr_nilc rfl) ?_|refine QV QlT ?_|refine QV QlF ?_|refine QV QeT ?_|refine QV QeF ?_|refine QV QnT ?_|refine QV QnF ?_|refine QV QaA ?_))
                exact E_round (i + 1, v3, cn3, b4) ⟨by show i + 1 ≤ g.prods.length; omega, by show PutOk cn3 (expProd g.prods T yn bits out (i + 1)) b4; rw [hnx2]; exact s2, by show b4 ≤ b + 62 * (i + 1); omega⟩ (by show g.prods.length - (i + 1) < g.prods.length - i; omega) (by repeat' (first | exact True.intro | refine And.intro rfl ?_)) (by dsimp only; rw [hnx2])
            · rw [if_neg c6] at hnx2
              repeat(first|((first|refine TW_plain rfl rfl ?_|refine TW_gmet rfl rfl rfl rfl ?_);first|refine QW QP ?_|refine QW (rr_load1 (v := .int .i64 hd) TyC.ty rfl (at_blk (i := 0) rfl rfl)) ?_|refine QW (rr_load1 (v := .slice (some ⟨gz2, 0, none⟩) ou.length cv2) TyC.ty rfl (at_blk (i := 1) rfl rfl)) ?_|refine QW (rr_idxc Und.eq TyC.ty rfl rfl hno) ?_|refine QW (rr_load1 (v := .int .i64 (dn : Int)) TyC.ty rfl (hat2 _ 2 rfl 1 _ rfl)) ?_|refine QW (rr_idxc Und.eq TyC.ty rfl rfl hlt) ?_|refine QW (rr_load1 (v := .int .i64 yn) TyC.ty rfl (hba _ 3 rfl 1 _ rfl)) ?_|refine QW (rr_neq (b := true) rfl rfl (decide_eq_true c6)) ?_|refine QW QL ?_|refine QW QA ?_|refine QW (rr_nilc rfl) ?_|refine QW QlT ?_|refine QW QlF ?_|refine QW QeT ?_|refine QW QeF ?_|refine QW QnT ?_|refine QW QnF ?_|refine QW QaA ?_)|refine TW_skip rfl rfl rfl rfl rfl rfl rfl ?_|refine TW_done ?_)
              repeat(first|refine QV QP ?_|refine QZ ?_|refine qcT rfl ?_|refine qcF rfl ?_|refine E_blockX ?_|refine E_blockO rfl ?_|refine qs rfl rfl rfl rfl rfl rfl ?_|((try refine qg rfl rfl rfl ?_);first|refine QV QP ?_|refine QV QL ?_|refine QV QA ?_|refine QV (rr_nilc rfl) ?_|refine QV QlT ?_|refine QV QlF ?_|refine QV QeT ?_|refine QV QeF ?_|refine QV QnT ?_|refine QV QnF ?_|refine QV QaA ?_))
              refine E_pick [0, 1, 2, 3, 4, 5, 6] (by decide) rfl ?_
              exact E_round (i + 1, .slice (some ⟨gz2, 0, none⟩) ou.length cv2, cn2, b3) ⟨by show i + 1 ≤ g.prods.length; omega, by show PutOk cn2 (expProd g.prods T yn bits out (i + 1)) b3; rw [hnx2]; exact p2, by show b3 ≤ b + 62 * (i + 1); omega⟩ (by show g.prods.length - (i + 1) < g.prods.length - i; omega) (by repeat' (first | exact True.intro | refine And.intro rfl ?_)) (by dsimp only; rw [hnx2]; rfl)
          · obtain rfl : i = g.prods.length := by omega
            repeat(first|refine QV QP ?_|refine QZ ?_|refine qcT rfl ?_|refine qcF rfl ?_|refine E_blockX ?_|refine E_blockO rfl ?_|refine qs rfl rfl rfl rfl rfl rfl ?_|((try refine qg rfl rfl rfl ?_);first|refine QV QP ?_|refine QV QL ?_|refine QV QA ?_|refine QV (rr_nilc rfl) ?_|refine QV QlT ?_|refine QV QlF ?_|refine QV QeT ?_|refine QV QeF ?_|refine QV QnT ?_|refine QV QnF ?_|refine QV QaA ?_))
            refine E_pick [0, 1, 2, 3, 4, 5] (by decide) rfl ?_
            exact E_round (n + 1, expProd g.prods T yn bits out g.prods.length, f2, c2', v2, cn2, b3) ⟨hwk, hwx, hf2, by show c2' ≤ c + (n + 1); omega, p2, by show b3 ≤ 40000 + 2480 * (n + 1); omega⟩ (by show 12000 - (n + 1) < 12000 - n; omega) (by repeat' (first | exact True.intro | refine And.intro rfl ?_)) rfl
        · repeat(first|refine QV QP ?_|refine QZ ?_|refine qcT rfl ?_|refine qcF rfl ?_|refine E_blockX ?_|refine E_blockO rfl ?_|refine qs rfl rfl rfl rfl rfl rfl ?_|((try refine qg rfl rfl rfl ?_);first|refine QV QP ?_|refine QV (rr_load1 (v := .slice (some ⟨gz, 0, none⟩) out.length cv) TyC.ty rfl (at_blk (i := 4) rfl rfl)) ?_|refine QV (rr_idxc Und.eq TyC.ty rfl rfl c2) ?_|refine QV (rr_idxc Und.eq TyC.ty rfl rfl hlt) ?_|refine QV (rr_load1 (v := .int .i64 (dn : Int)) TyC.ty rfl (hat _ 5 rfl 1 _ rfl)) ?_|refine QV (rr_eql (b := false) rfl rfl (decide_eq_false (by omega))) ?_|refine QV (rr_load1 (v := .int .i64 yk) TyC.ty rfl (hba _ 6 rfl 0 _ rfl)) ?_|refine QV (rr_neq (b := true) rfl rfl (decide_eq_true c4)) ?_|refine QV QL ?_|refine QV QA ?_|refine QV (rr_nilc rfl) ?_|refine QV QlT ?_|refine QV QlF ?_|refine QV QeT ?_|refine QV QeF ?_|refine QV QnT ?_|refine QV QnF ?_|refine QV QaA ?_))
          have hexp : expI g.prods T (lkG g) ((k : Int), (dn : Int), (ln : Int)) out = out := by
            unfold expI
            rw [hnx]
            dsimp only
            rw [if_neg c4]
          rw [hexp] at hwk hwx
          refine E_pick [0, 1, 2, 3, 4, 5] (by decide) rfl ?_
          exact E_round (n + 1, out, f', c', .slice (some ⟨gz, 0, none⟩) out.length cv, cn', b) ⟨hwk, hwx, i3, by show c' ≤ c + (n + 1); omega, i5, by show b ≤ 40000 + 2480 * (n + 1); omega⟩ (by show 12000 - (n + 1) < 12000 - n; omega) (by repeat' (first | exact True.intro | refine And.intro rfl ?_)) rfl
    · have hn : n = out.length := by have := i1.le; omega
      have hR : workI g.prods T (lkG g) 12000 0 (firsts [] l0) = out := by
        rw [← i2, show 12000 - n = (11999 - n) + 1 by omega, workI, if_neg c2]
      have hcI : closedI g.prods T (lkG g) l0 = sortI out := by unfold closedI; rw [hR]
      repeat(first|refine QV QP ?_|refine QZ ?_|refine qcT rfl ?_|refine qcF rfl ?_|refine E_blockX ?_|refine E_blockO rfl ?_|refine qs rfl rfl rfl rfl rfl rfl ?_|((try refine qg rfl rfl rfl ?_);first|refine QV QP ?_|refine QV (rr_load1 (v := .slice bv out.length cv) TyC.ty rfl (at_blk (i := 4) rfl rfl)) ?_|refine QV QL ?_|refine QV QA ?_|refine QV (rr_nilc rfl) ?_|refine QV QlT ?_|refine QV QlF ?_|refine QV QeT ?_|refine QV QeF ?_|refine QV QnT ?_|refine QV QnF ?_|refine QV QaA ?_))
      refine TL_callB [5] [0, 1, 2, 3, 4] (by decide) rfl rfl (he2 EntersC.en rfl rfl rfl) (fun w hm hb => itSortG order_k (.slice bv out.length cv) out w _ hb (by omega)) rfl rfl rfl ?_
      intro _ _
      conv=>arg 8;simp only[zA,zB,zC,zD,zE,zF,zG,zH,zI,rowS,ret,id_eq]
      repeat(first|refine QV QP ?_|refine QZ ?_|refine qcT rfl ?_|refine qcF rfl ?_|refine E_blockX ?_|refine E_blockO rfl ?_|refine qs rfl rfl rfl rfl rfl rfl ?_|((try refine qg rfl rfl rfl ?_);first|refine QV QP ?_|refine QV (rr_load1 (v := .slice bv out.length cv) TyC.ty rfl (at_blk (i := 4) rfl rfl)) ?_|refine QV QL ?_|refine QV QA ?_|refine QV (rr_nilc rfl) ?_|refine QV QlT ?_|refine QV QlF ?_|refine QV QeT ?_|refine QV QeF ?_|refine QV QnT ?_|refine QV QnF ?_|refine QV QaA ?_))
      exact E_ret1 rfl rfl fun w hm => hm.meetsB (S := itClS g T l0 bp cp go gm c) (f', c', .slice bv out.length cv) ⟨i3, by show c' ≤ c + 12000; omega⟩ [0, 1, 5] (by decide) (by unfold itClS opL; dsimp only; rw [hcI, sort_len]; rfl)
end Go.Proofs.Ytdbghmgajmlkmaa.eng

/- ItG -/
namespace Go.Proofs.Ytdbghmgajmlkmaa.eng
open Go.RowKit kit mix gramL treeL factsL itemL smallL
/-- an own slice, handed to a call that can't turn it -/
theorem SlB.row {W : Base} {L Lx : List Own} {w : World} (hm : Mem W L w) {i n size : Nat} {e : TypeId} {v : Value} {xs : List Value} (hi : L[i]? = some (rowO e size v n xs)) (is : List Nat) (hL : Lx = is.filterMap fun i => L[i]?) (hni : i ∉ is) : SlB (Base.on w Lx) v n xs := by
  have hh : (rowO e size v n xs).holds w := hm.get hi
  obtain ⟨base, cap, rfl, h1, h2, h3⟩ := Sl.of_own hh
  refine ⟨base, cap, rfl, h1, h2, fun hn => ?_⟩
  obtain ⟨b, off, rfl, hr⟩ := h3 hn
  have hf : (rowO e size (.slice (some ⟨b, off, none⟩) n cap) n xs).foot b := by
    rcases (show w.ownsRow 0 e size _ n xs from hh).2 with ⟨hv, _⟩ | ⟨g, cp, cur, hv, _⟩
    · cases hv
    · cases hv; exact .inl rfl
  refine ⟨b, off, rfl, ⟨(rowO e size _ n xs).lt w hh b hf, ?_⟩, hr⟩
  rintro ⟨o, ho, hfo⟩
  subst hL
  obtain ⟨j, hj, hoj⟩ := List.mem_filterMap.1 ho
  exact hm.owns.apart i j _ _ (fun h => hni (h ▸ hj)) hi hoj b hf hfo
theorem SlB.at {B : Base} {L : List Own} {α : Type} {f : α → List Value} {c : Nat} (hc : ∀ a, (f a).length = c) {base : Option Addr} {cap n : Nat} {l : List α} (h : SlB B (.slice base n cap) n (l.flatMap f)) (hn : 0 < n) : ∃ b off, base = some ⟨b, off, none⟩ ∧ ∀ (k : Nat) (hk : k < l.length) (j : Nat) (u : Value), (f l[k])[j]? = some u → At B L ⟨b, off + k * c + j, none⟩ u := by
  obtain ⟨base', cap', h0, h1, h2, h3⟩ := h
  cases h0
  obtain ⟨b, off, rfl, ho, hr⟩ := h3 hn
  exact ⟨b, off, rfl, fun k hk j u hj => at_elL (W := B) (L := L) hc (off := off) (fun q y hq => at_oldB ho hr q y hq) hk j u hj⟩
theorem over_take {l : List gramL.Prod} {s : List itemL.Item} {x : Sym} {k : Nat} (h : k < s.length) : overI l (s.take (k + 1)) x = if nextS l s[k] = some x then overI l (s.take k) x ++ [advI s[k]] else overI l (s.take k) x := by
  unfold overI
  rw [List.take_succ_eq_append_getElem h, List.filter_append, List.map_append]
  by_cases c : nextS l s[k] = some x
  · rw [if_pos c, List.filter_cons_of_pos (by simpa using c)]; rfl
  · rw [if_neg c, List.filter_cons_of_neg (by simpa using c)]; simp
theorem over_len {l : List gramL.Prod} {s : List itemL.Item} {x : Sym} : (overI l s x).length ≤ s.length := by
  unfold overI; rw [List.length_map]; exact List.length_filter_le _ _
set_option maxHeartbeats 8000000 in
theorem itStep_calls (g : Gram) (hg : checkG g = 0) (bp : Option Addr) (cp : Nat) (vb : Nat → Value) (w0 : World) (hG : GraR (fun q => q < w0.heap.size) w0 (graV g.terms g.nons (.slice bp g.prods.length cp)) g) (hvb : BodR (fun q => q < w0.heap.size) w0 vb g.prods) (hrp : 0 < g.prods.length → ∃ b off, bp = some ⟨b, off, none⟩ ∧ ∀ i, i < g.prods.length → Rd w0 b (off + i * 2) [.int .i64 (prodAt g.prods (i : Int)).1, vb i])
    (go gm c : Nat) (f : RK → Option Value) (T : Nat) (hTt : g.terms = (T : Int)) (hT : T ≤ 30) (s : List itemL.Item) (x : Sym) (vl : Value) (h0 : ∀ it ∈ s, RightI g.prods T it) (hl0 : s.length ≤ 20000) (hc : CacheOk (lkG g) f) (hcc : c ≤ 900000000000000) (w : World) (B : Base) (ho : Old w0 B) (hvl : SlB B vl s.length (s.flatMap itC))
    (hm : Mem B (opL g bp cp go gm f c) w) :
    Calls Try.prog 39 #[.pointer (some ⟨go, 0, none⟩), vl, .agg (symC x).toArray] w (MeetsB (itClS g T (overI g.prods s x) bp cp go gm c) B) := by
  have hcl := fun v h2 h3 w' B' ho' hs' hm' => itClosed_calls g hg bp cp vb w0 hG hvb hrp go gm c f T hTt hT (overI g.prods s x) v h2 h3 hc hcc w' B' ho' hs' hm'
  have hol := over_len (l := g.prods) (s := s) (x := x)
  have hor := over_right (l := g.prods) (T := T) (x := x) h0
  obtain ⟨bl, cl, rfl, hc1, hc2, hrl⟩ := id hvl
  clear hrl
  unfold maxLen at hc2
  unfold opL at hm
  refine enterB hm (args := [.pointer (some ⟨go, 0, none⟩), .slice bl s.length cl, .agg (symC x).toArray]) (n := 50) Try.func39 rfl rfl rfl ?_
  refine T_seq (T_region (TL_box rfl rfl rfl fun g5 => ?_))
  conv=>arg 8;simp only[zA,zB,zC,zD,zE,zF,zG,zH,zI,rowS,ret,id_eq]
  repeat(first|refine QV QP ?_|refine QZ ?_|refine qcT rfl ?_|refine qcF rfl ?_|refine E_blockX ?_|refine E_blockO rfl ?_|refine qs rfl rfl rfl rfl rfl rfl ?_|((try refine qg rfl rfl rfl ?_);first|refine QV QP ?_|refine QV QL ?_|refine QV QA ?_|refine QV (rr_nilc rfl) ?_|refine QV QlT ?_|refine QV QlF ?_|refine QV QaA ?_))
  refine T_nil 105 3 ?_
  conv => arg 7; simp only [zA, zB, zC, zD, zE, zF, zG, zH, zI, rowS, ret, id_eq]
  refine T_loop (ι := Nat × Value) (fun (k, _) => k ≤ s.length) (fun (k, v) => [(0, .pointer (some ⟨go, 0, none⟩)), (5, .pointer (some ⟨g5, 0, none⟩)), (7, v), (11, .slice bl s.length cl), (12, .int .i64 s.length), (13, .int .i64 (k : Int))])
    (fun (k, v) => [blkO go (opC g.terms g.nons (.slice bp g.prods.length cp) gm).toArray 111, mapO restK gm f c, blkO g5 (symC x).toArray 55, rowO 105 3 v (overI g.prods (s.take k) x).length ((overI g.prods (s.take k) x).flatMap itC)]) (fun (k, _) => s.length - k) (0, .slice none 0 0) (Nat.zero_le _) (by repeat' (first | exact True.intro | refine And.intro rfl ?_)) rfl ?_
  rintro ⟨k, v⟩ i1
  dsimp only at i1 ⊢
  by_cases c1 : k < s.length
  · obtain ⟨b, off, rfl, hat⟩ := hvl.at (L := []) itC_len (by omega)
    have hatA : ∀ (L : List Own) (j : Nat) (u : Value), (itC s[k])[j]? = some u → At B L ⟨b, off + k * 3 + j, none⟩ u := fun L => by
      obtain ⟨b', off', he, h⟩ := hvl.at (L := L) itC_len (by omega)
      cases he
      exact h k c1
    clear hat
    have hxr := h0 s[k] (List.getElem_mem c1)
    have hnx := over_take (l := g.prods) (x := x) c1
    have hln : (overI g.prods (s.take k) x).length ≤ 20000 := Nat.le_trans over_len (by rw [List.length_take]; omega)
    generalize overI g.prods (s.take k) x = ov at *
    generalize hnx2 : overI g.prods (s.take (k + 1)) x = ov' at *
    clear hcl hor hol
    generalize s[k] = it at *
    obtain ⟨p, d, lo⟩ := it
    have hxr2 := hxr
    obtain ⟨r1, r2, r3, r4, r5, r6⟩ := hxr2
    dsimp only at r1 r2 r3 r4 r5 r6
    obtain ⟨kn, rfl⟩ := Int.eq_ofNat_of_zero_le r1
    obtain ⟨dn, rfl⟩ := Int.eq_ofNat_of_zero_le r3
    obtain ⟨ln, rfl⟩ := Int.eq_ofNat_of_zero_le r5
    have hk : kn ≤ g.prods.length := by omega
    have hbd := fun w' (hm' : Mem B [] w') => itBody_calls g.terms g.nons bp cp g.prods vb w0 w' B kn hk ho hm' (fun i hi => let ⟨b, c, h, _⟩ := hvb i hi; ⟨b, _, c, h⟩) hrp
    have hwl : ∀ q ∈ g.prods, q.2.length ≤ 8 := fun q hq => ((checkG_ok hg).2.2.2.2.2 q hq).1
    have hb8 := body_len (l := g.prods) (p := (kn : Int)) hwl
    repeat(first|refine QV QP ?_|refine QZ ?_|refine qcT rfl ?_|refine qcF rfl ?_|refine E_blockX ?_|refine E_blockO rfl ?_|refine qs rfl rfl rfl rfl rfl rfl ?_|((try refine qg rfl rfl rfl ?_);first|refine QV QP ?_|refine QV (rr_idxc Und.eq TyC.ty rfl rfl c1) ?_|refine QV (rr_loadN (cs := itC ((kn : Int), (dn : Int), (ln : Int))) TyC.ty rfl rfl (hatA _)) ?_|refine QV QL ?_|refine QV QA ?_|refine QV (rr_nilc rfl) ?_|refine QV QlT ?_|refine QV QlF ?_|refine QV QaA ?_))
    refine TL_new rfl fun g9 => ?_
    conv=>arg 8;simp only[zA,zB,zC,zD,zE,zF,zG,zH,zI,rowS,ret,id_eq]
    refine TL_storeB (i := 4) (cs' := (itC ((kn : Int), (dn : Int), (ln : Int))).toArray) rfl rfl rfl rfl rfl rfl ?_
    conv=>arg 8;simp only[zA,zB,zC,zD,zE,zF,zG,zH,zI,rowS,ret,id_eq]
    repeat(first|refine QV QP ?_|refine QZ ?_|refine qcT rfl ?_|refine qcF rfl ?_|refine E_blockX ?_|refine E_blockO rfl ?_|refine qs rfl rfl rfl rfl rfl rfl ?_|((try refine qg rfl rfl rfl ?_);first|refine QV QP ?_|refine QV QL ?_|refine QV QA ?_|refine QV (rr_nilc rfl) ?_|refine QV QlT ?_|refine QV QlF ?_|refine QV QaA ?_))
    refine T_ord ([blkO go (opC g.terms g.nons (.slice bp g.prods.length cp) gm).toArray 111, blkO g9 (itC ((kn : Int), (dn : Int), (ln : Int))).toArray 105]) (.calm 0 (.calm 1 (.calm 2 (.calm 3 (.calm 4 (.calm 5 (.one 6 (.calm 7 (.done))))))))) (sub_pick [0, 4] (by decide) rfl) (by kernel_rfl) (by kernel_rfl) (by intro c a d v w h; cases d <;> exact h) ?_
    repeat(first|((first|refine TW_plain rfl rfl ?_|refine TW_gmet rfl rfl rfl rfl ?_);first|refine QW QP ?_|refine QW (rr_nilc rfl) ?_|refine QW (rr_loadN TyC.ty rfl (cs := [.int .i64 g.terms, .int .i64 g.nons, .slice bp g.prods.length cp]) rfl (fun j v h => at_blk (i := 0) rfl (op_gram h))) ?_|refine QW (rr_load1 (v := .int .i64 (kn : Int)) TyC.ty rfl (at_blk (i := 1) rfl rfl)) ?_|refine QW QL ?_|refine QW QA ?_|refine QW (rr_nilc rfl) ?_|refine QW QlT ?_|refine QW QlF ?_|refine QW QaA ?_)|refine TW_skip rfl rfl rfl rfl rfl rfl rfl ?_|refine TW_done ?_)
    refine TW_one rfl ?_
    refine TL_call (he2 EntersC.en rfl rfl rfl) (fun w hm => hbd _ (hm.pick [] (by decide) rfl)) rfl rfl rfl ?_
    rintro xb hxb
    conv=>arg 8;simp only[zA,zB,zC,zD,zE,zF,zG,zH,zI,rowS,ret,id_eq, bodyS]
    conv => arg 7; simp only [bodyS]
    obtain ⟨bb, cc, hbv, hlc, -⟩ := body_slL (W := B) (i := 5) (L := [blkO go (opC g.terms g.nons (.slice bp g.prods.length cp) gm).toArray 111, mapO restK gm f c, blkO g5 (symC x).toArray 55, rowO 105 3 v ov.length (ov.flatMap itC), blkO g9 (itC ((kn : Int), (dn : Int), (ln : Int))).toArray 105, bodO xb]) ho hvb hk hxb rfl
    rw [hbv]
    refine TW_on (sub_pick [0, 4] (by decide) rfl) ?_
    repeat(first|((first|refine TW_plain rfl rfl ?_|refine TW_gmet rfl rfl rfl rfl ?_);first|refine QW QP ?_|refine QW QL ?_|refine QW QA ?_|refine QW (rr_nilc rfl) ?_|refine QW QlT ?_|refine QW QlF ?_|refine QW QaA ?_)|refine TW_skip rfl rfl rfl rfl rfl rfl rfl ?_|refine TW_done ?_)
    clear hbd
    by_cases c2 : dn < (bodyI g.prods (kn : Int)).length
    · obtain ⟨b2, o2, rfl, hba⟩ := body_at ho hvb hk hxb hbv c2
      have hns : nextS g.prods ((kn : Int), (dn : Int), (ln : Int)) = some (bodyI g.prods (kn : Int))[dn] := by
        unfold nextS
        dsimp only
        rw [Int.toNat_natCast, List.getElem?_eq_getElem c2]
      have heq := fun w => eq_sym (bodyI g.prods (kn : Int))[dn] x w
      generalize (bodyI g.prods (kn : Int))[dn] = y at *
      rw [hns] at hnx
      repeat(first|refine QV QP ?_|refine QZ ?_|refine qcT rfl ?_|refine qcF rfl ?_|refine E_blockX ?_|refine E_blockO rfl ?_|refine qs rfl rfl rfl rfl rfl rfl ?_|((try refine qg rfl rfl rfl ?_);first|refine QV QP ?_|refine QV QL ?_|refine QV QA ?_|refine QV (rr_nilc rfl) ?_|refine QV QlT ?_|refine QV QlF ?_|refine QV QaA ?_))
      refine T_ord ([blkO g5 (symC x).toArray 55, blkO g9 (itC ((kn : Int), (dn : Int), (ln : Int))).toArray 105, bodO xb]) (.calm 0 (.calm 1 (.calm 2 (.calm 3 (.calm 4 (.calm 5 (.calm 6 (.calm 7 (.calm 8 (.calm 9 (.calm 10 (.calm 11 (.calm 12 (.calm 13 (.done))))))))))))))) (sub_pick [2, 4, 5] (by decide) rfl) (by kernel_rfl) (by kernel_rfl) (by intro c a d v w h; cases d <;> exact h) ?_
      by_cases c3 : y = x
      · subst c3
        rw [if_pos rfl] at hnx
        rw [decide_eq_true rfl] at heq
        repeat(first|((first|refine TW_plain rfl rfl ?_|refine TW_gmet rfl rfl rfl rfl ?_);first|refine QW QP ?_|refine QW (rr_load1 (v := .int .i64 (dn : Int)) TyC.ty rfl (at_blk (i := 1) rfl rfl)) ?_|refine QW (rr_idxc Und.eq TyC.ty rfl rfl c2) ?_|refine QW (rr_loadN (cs := symC y) TyC.ty rfl rfl (hba _ 2 rfl)) ?_|refine QW (rr_loadB (i := 0) TyC.ty rfl rfl rfl) ?_|refine QW QL ?_|refine QW QA ?_|refine QW (rr_nilc rfl) ?_|refine QW QlT ?_|refine QW QlF ?_|refine QW QaA ?_|refine QW (rr_aggeq rfl rfl (by kernel_rfl) heq) ?_)|refine TW_skip rfl rfl rfl rfl rfl rfl rfl ?_|refine TW_done ?_)
        repeat(first|refine QV QP ?_|refine QZ ?_|refine qcT rfl ?_|refine qcF rfl ?_|refine E_blockX ?_|refine E_blockO rfl ?_|refine qs rfl rfl rfl rfl rfl rfl ?_|((try refine qg rfl rfl rfl ?_);first|refine QV QP ?_|refine QV (rr_load1 (v := .int .i64 (dn : Int)) TyC.ty rfl (at_blk (i := 4) rfl rfl)) ?_|refine QV QL ?_|refine QV QA ?_|refine QV (rr_nilc rfl) ?_|refine QV QlT ?_|refine QV QlF ?_|refine QV QaA ?_))
        refine TL_store1 (i := 4) rfl rfl rfl rfl rfl rfl ?_
        conv=>arg 8;simp only[zA,zB,zC,zD,zE,zF,zG,zH,zI,rowS,ret,id_eq]
        repeat(first|refine QV QP ?_|refine QZ ?_|refine qcT rfl ?_|refine qcF rfl ?_|refine E_blockX ?_|refine E_blockO rfl ?_|refine qs rfl rfl rfl rfl rfl rfl ?_|((try refine qg rfl rfl rfl ?_);first|refine QV QP ?_|refine QV (rr_loadB (i := 4) TyC.ty rfl rfl rfl) ?_|refine QV QL ?_|refine QV QA ?_|refine QV (rr_nilc rfl) ?_|refine QV QlT ?_|refine QV QlF ?_|refine QV QaA ?_))
        refine TL_pushN (i := 3) rfl rfl rfl rfl rfl rfl rfl (fun z h => by cases h; rfl) (by omega) (by omega) rfl fun z v' => ?_
        conv=>arg 8;simp only[zA,zB,zC,zD,zE,zF,zG,zH,zI,rowS,ret,id_eq]
        repeat(first|refine QV QP ?_|refine QZ ?_|refine qcT rfl ?_|refine qcF rfl ?_|refine E_blockX ?_|refine E_blockO rfl ?_|refine qs rfl rfl rfl rfl rfl rfl ?_|((try refine qg rfl rfl rfl ?_);first|refine QV QP ?_|refine QV QL ?_|refine QV QA ?_|refine QV (rr_nilc rfl) ?_|refine QV QlT ?_|refine QV QlF ?_|refine QV QaA ?_))
        refine E_pick [0, 1, 2, 3] (by decide) rfl ?_
        exact E_round (k + 1, v') (by show k + 1 ≤ s.length; omega) (by show s.length - (k + 1) < s.length - k; omega) (by repeat' (first | exact True.intro | refine And.intro rfl ?_)) (by dsimp only; rw [hnx2, hnx, List.length_append, List.flatMap_append]; rfl)
      · rw [if_neg (fun h => c3 (Option.some.inj h))] at hnx
        rw [decide_eq_false c3] at heq
        repeat(first|((first|refine TW_plain rfl rfl ?_|refine TW_gmet rfl rfl rfl rfl ?_);first|refine QW QP ?_|refine QW (rr_load1 (v := .int .i64 (dn : Int)) TyC.ty rfl (at_blk (i := 1) rfl rfl)) ?_|refine QW (rr_idxc Und.eq TyC.ty rfl rfl c2) ?_|refine QW (rr_loadN (cs := symC y) TyC.ty rfl rfl (hba _ 2 rfl)) ?_|refine QW (rr_loadB (i := 0) TyC.ty rfl rfl rfl) ?_|refine QW QL ?_|refine QW QA ?_|refine QW (rr_nilc rfl) ?_|refine QW QlT ?_|refine QW QlF ?_|refine QW QaA ?_|refine QW (rr_aggeq rfl rfl (by kernel_rfl) heq) ?_)|refine TW_skip rfl rfl rfl rfl rfl rfl rfl ?_|refine TW_done ?_)
        repeat(first|refine QV QP ?_|refine QZ ?_|refine qcT rfl ?_|refine qcF rfl ?_|refine E_blockX ?_|refine E_blockO rfl ?_|refine qs rfl rfl rfl rfl rfl rfl ?_|((try refine qg rfl rfl rfl ?_);first|refine QV QP ?_|refine QV QL ?_|refine QV QA ?_|refine QV (rr_nilc rfl) ?_|refine QV QlT ?_|refine QV QlF ?_|refine QV QaA ?_))
        refine E_pick [0, 1, 2, 3] (by decide) rfl ?_
        exact E_round (k + 1, v) (by show k + 1 ≤ s.length; omega) (by show s.length - (k + 1) < s.length - k; omega) (by repeat' (first | exact True.intro | refine And.intro rfl ?_)) (by dsimp only; rw [hnx2, hnx]; rfl)
    · have hns : nextS g.prods ((kn : Int), (dn : Int), (ln : Int)) = none := by
        unfold nextS
        dsimp only
        rw [Int.toNat_natCast, List.getElem?_eq_none (by omega)]
      rw [hns, if_neg (fun h => by cases h)] at hnx
      repeat(first|refine QV QP ?_|refine QZ ?_|refine qcT rfl ?_|refine qcF rfl ?_|refine E_blockX ?_|refine E_blockO rfl ?_|refine qs rfl rfl rfl rfl rfl rfl ?_|((try refine qg rfl rfl rfl ?_);first|refine QV QP ?_|refine QV QL ?_|refine QV QA ?_|refine QV (rr_nilc rfl) ?_|refine QV QlT ?_|refine QV QlF ?_|refine QV QaA ?_))
      refine T_ord ([blkO g5 (symC x).toArray 55, blkO g9 (itC ((kn : Int), (dn : Int), (ln : Int))).toArray 105, bodO xb]) (.calm 0 (.calm 1 (.calm 2 (.calm 3 (.calm 4 (.calm 5 (.calm 6 (.calm 7 (.calm 8 (.calm 9 (.calm 10 (.calm 11 (.calm 12 (.calm 13 (.done))))))))))))))) (sub_pick [2, 4, 5] (by decide) rfl) (by kernel_rfl) (by kernel_rfl) (by intro c a d v w h; cases d <;> exact h) ?_
      repeat(first|((first|refine TW_plain rfl rfl ?_|refine TW_gmet rfl rfl rfl rfl ?_);first|refine QW QP ?_|refine QW (rr_load1 (v := .int .i64 (dn : Int)) TyC.ty rfl (at_blk (i := 1) rfl rfl)) ?_|refine QW QL ?_|refine QW QA ?_|refine QW (rr_nilc rfl) ?_|refine QW QlT ?_|refine QW QlF ?_|refine QW QaA ?_)|refine TW_skip rfl rfl rfl rfl rfl rfl rfl ?_|refine TW_done ?_)
      repeat(first|refine QV QP ?_|refine QZ ?_|refine qcT rfl ?_|refine qcF rfl ?_|refine E_blockX ?_|refine E_blockO rfl ?_|refine qs rfl rfl rfl rfl rfl rfl ?_|((try refine qg rfl rfl rfl ?_);first|refine QV QP ?_|refine QV QL ?_|refine QV QA ?_|refine QV (rr_nilc rfl) ?_|refine QV QlT ?_|refine QV QlF ?_|refine QV QaA ?_))
      refine E_pick [0, 1, 2, 3] (by decide) rfl ?_
      exact E_round (k + 1, v) (by show k + 1 ≤ s.length; omega) (by show s.length - (k + 1) < s.length - k; omega) (by repeat' (first | exact True.intro | refine And.intro rfl ?_)) (by dsimp only; rw [hnx2, hnx]; rfl)
  · obtain rfl : k = s.length := by omega
    rw [List.take_length]
    repeat(first|refine QV QP ?_|refine QZ ?_|refine qcT rfl ?_|refine qcF rfl ?_|refine E_blockX ?_|refine E_blockO rfl ?_|refine qs rfl rfl rfl rfl rfl rfl ?_|((try refine qg rfl rfl rfl ?_);first|refine QV QP ?_|refine QV QL ?_|refine QV QA ?_|refine QV (rr_nilc rfl) ?_|refine QV QlT ?_|refine QV QlF ?_|refine QV QaA ?_))
    refine TL_callB [0, 1] [2, 3] (by decide) rfl rfl (he2 EntersC.en rfl rfl rfl) (fun w hm hb => hcl v hor (by omega) w _ (ho.on hm fun o h => pickMem h) (SlB.row hm (i := 3) rfl [0, 1] rfl (by decide)) hb) rfl rfl rfl ?_
    rintro ⟨f2, c2, v2⟩ ⟨hf2, hc2'⟩
    conv=>arg 8;simp only[zA,zB,zC,zD,zE,zF,zG,zH,zI,rowS,ret,id_eq, itClS, opL]
    conv => arg 7; simp only [itClS]
    repeat(first|refine QV QP ?_|refine QZ ?_|refine qcT rfl ?_|refine qcF rfl ?_|refine E_blockX ?_|refine E_blockO rfl ?_|refine qs rfl rfl rfl rfl rfl rfl ?_|((try refine qg rfl rfl rfl ?_);first|refine QV QP ?_|refine QV QL ?_|refine QV QA ?_|refine QV (rr_nilc rfl) ?_|refine QV QlT ?_|refine QV QlF ?_|refine QV QaA ?_))
    exact E_ret1 rfl rfl fun w hm => hm.meetsB (S := itClS g T (overI g.prods s x) bp cp go gm c) (f2, c2, v2) ⟨hf2, hc2'⟩ [2, 3, 4] (by decide) rfl
end Go.Proofs.Ytdbghmgajmlkmaa.eng

