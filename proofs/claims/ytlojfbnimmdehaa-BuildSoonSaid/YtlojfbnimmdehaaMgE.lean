/- Part 5 of what BuildSoon needs: ItF, ItG, ItA, ItP, ItJ, OutA, LrK, LrC, LrM, LrN, ClimbL, Opens, BeginL, BeginW. -/
import Derived.Test.YtlojfbnimmdehaaMgD
import Derived.WalkKit
import Derived.WalkSpells
import Derived.WalkLawsBesides
import Derived.Deep.RegionLaw
import Derived.Deep.AppendLies
import Derived.Deep.QuietTactic
import Derived.BigQuiet
import Derived.Deep.DeepCutAuto
import Derived.Lib.Hide
import Derived.Test.YtlojfbnimmdehaaRows
import Derived.ProofKit
import Derived.OpenShut
import Derived.ShutString
import Derived.SizedLaws
import Derived.JoinedCond
import Derived.Deep.CondSized
import Derived.Deep.Quiet
import Derived.StillTail
import Derived.Deep.LoopGhost
import Derived.Laws.BitsLemmas
import Derived.Laws.BytesString
import Derived.Test.YtlojfbnimmdehaaProg
import Derived.Laws.StructEq
import Derived.Laws.MakeOwn
import Derived.Laws.AppendOwn
import Derived.Laws.Entries
import Derived.Maps.OwnSet
import Derived.DeepKeys4
import Derived.WideKeyEntry
import Derived.Sort.Grow
import Derived.Lib.Walk
import Derived.Deep.RegionWith
import Derived.Deep.RegionHeld
import Derived.StringKeys
import Derived.Laws.BitsAllLaws
import Derived.Shelf.SlGeneric
import Derived.Shelf.SlSortCmp.NoneTotal
import Derived.Ground.SlsfProg
/- ItF -/
namespace Go.Proofs.Ytlojfbnimmdehaa.eng
open Go.RowKit kit mix gramL treeL factsL itemL smallL
/-- a slice that the caller keeps as it is -/
def SlB (B : Base) (v : Value) (n : Nat) (xs : List Value) : Prop :=
  ∃ base cap, v = .slice base n cap ∧ n ≤ cap ∧ cap ≤ maxLen ∧ (0 < n → ∃ b off, base = some ⟨b, off, none⟩ ∧ OldB B b ∧ Rd B.w b off xs)
theorem SlB.old {w0 : World} {B : Base} {v : Value} {n : Nat} {xs : List Value} (ho : Old w0 B) (h : Sl w0 v n xs) (hx : 0 < n → xs ≠ []) : SlB B v n xs := by
  obtain ⟨base, cap, rfl, h1, h2, h3⟩ := h
  refine ⟨base, cap, rfl, h1, h2, fun hn => ?_⟩
  obtain ⟨b, off, rfl, hr⟩ := h3 hn
  obtain ⟨x, r, hxs⟩ : ∃ x r, xs = x :: r := List.exists_cons_of_ne_nil (hx hn)
  have h0 := hr 0 x (by rw [hxs]; rfl)
  have hlt : b < w0.heap.size := World.block_lt_of_cell? w0 _ h0
  refine ⟨b, off, rfl, ⟨Nat.lt_of_lt_of_le hlt ho.below.size, ho.free b hlt⟩, fun j v hj => ?_⟩
  have h2 := hr j v hj
  rw [ho.below.cell (show (⟨b, off + j, none⟩ : Addr).block < w0.heap.size from hlt)]
  rw [← h2]
/-- a symbol of the body, read -/
theorem body_at {l : List gramL.Prod} {w0 : World} {W : Base} {vb : Nat → Value} {k dn : Nat} {x : Option Nat} {bb : Option Addr} {cc m : Nat} (ho : Old w0 W) (hv : BodR (fun q => q < w0.heap.size) w0 vb l) (hk : k ≤ l.length) (hx : x.isSome = decide (k = l.length)) (hb : bodV vb k x = .slice bb m cc) (hd : dn < (bodyI l (k : Int)).length) :
    ∃ b off, bb = some ⟨b, off, none⟩ ∧ ∀ (L : List Own) (i : Nat), L[i]? = some (bodO x) → ∀ j u, (symC (bodyI l (k : Int))[dn])[j]? = some u → At W L ⟨b, off + dn * 2 + j, none⟩ u := by
  cases x with
  | some g =>
    have hk : k = l.length := by simpa using hx
    subst hk
    have e : bodyI l (l.length : Int) = [(2, 0)] := by unfold bodyI; rw [if_pos rfl]
    have hb : Value.slice (some ⟨g, 0, none⟩) 1 1 = .slice bb m cc := hb
    cases hb
    refine ⟨g, 0, rfl, fun L i hi j u hj => ?_⟩
    have hd0 : dn = 0 := by rw [e] at hd; simpa using hd
    subst hd0
    simp only [e, List.getElem_cons_zero] at hj
    rw [show 0 + 0 * 2 + j = j by omega]
    exact at_blk hi (by simpa [symC] using hj)
  | none =>
    have hk' : k < l.length := by
      have : ¬ k = l.length := by simpa using hx
      omega
    have e : bodyI l (k : Int) = (prodAt l (k : Int)).2 := by unfold bodyI; rw [if_neg (by omega)]
    have hs := (hv k hk').flat (f := symC) (by decide)
    have hb : vb k = .slice bb m cc := hb
    rw [hb] at hs
    obtain ⟨base, cap, h1, _, _, h3⟩ := hs
    cases h1
    have hd' : dn < (prodAt l (k : Int)).2.length := by rw [← e]; exact hd
    obtain ⟨b, off, rfl, hr⟩ := h3 (by omega)
    refine ⟨b, off, rfl, fun L i _ j u hj => ?_⟩
    simp only [e] at hj
    exact at_elL (W := W) (L := L) SymC_len (off := off) (fun q y hq => at_old0 ho (hr q y hq)) hd' j u hj
theorem looksI_lt (g : Gram) {it : itemL.Item} (h : it.2.2.toNat < 64) : looksI (lkG g) it < 18446744073709551616 := by
  have h1 : lkG g it.1 it.2.1 < 18446744073709551616 := begV_lt (by decide)
  unfold looksI
  split
  · exact Nat.or_lt_two_pow (n := 64) (Nat.xor_lt_two_pow (n := 64) h1 (by decide)) (Nat.pow_lt_pow_right (by decide) h)
  · exact h1
theorem expLook_le {i bits : Nat} {out : List itemL.Item} : ∀ k, (expLook i bits out k).length ≤ out.length + k
  | 0 => Nat.le_refl _
  | k + 1 => by
    rw [expLook]
    have := expLook_le (i := i) (bits := bits) (out := out) k
    have h2 : (more (expLook i bits out k) ((i : Int), 0, (k : Int))).length ≤ (expLook i bits out k).length + 1 := by unfold more; split <;> simp
    split <;> omega
theorem expProd_le {l : List gramL.Prod} {T : Nat} {N : Int} {bits : Nat} {out : List itemL.Item} : ∀ i, (expProd l T N bits out i).length ≤ out.length + i * (T + 1)
  | 0 => by rw [Nat.zero_mul]; exact Nat.le_refl _
  | i + 1 => by
    rw [expProd, Nat.succ_mul]
    have := expProd_le (l := l) (T := T) (N := N) (bits := bits) (out := out) i
    have h2 := expLook_le (i := i) (bits := bits) (out := expProd l T N bits out i) (T + 1)
    split <;> omega
theorem pickMem {L : List Own} {is : List Nat} {o : Own} (h : o ∈ is.filterMap fun i => L[i]?) : o ∈ L := by
  obtain ⟨i, _, hi⟩ := List.mem_filterMap.1 h
  exact List.mem_of_getElem? hi
/-- what the opener owns -/
def opL (g : Gram) (bp : Option Addr) (cp go gm : Nat) (f : RK → Option Value) (c : Nat) : List Own := [blkO go (opC g.terms g.nons (.slice bp g.prods.length cp) gm).toArray 164, mapO restK gm f c]
theorem firstsLe {κ : Type} [DecidableEq κ] : ∀ (l D : List κ), (firsts D l).length ≤ D.length + l.length
  | [], D => by simp [firsts]
  | k :: r, D => by
    rw [firsts]
    have := firstsLe r (if k ∈ D then D else D ++ [k])
    have h2 : (if k ∈ D then D else D ++ [k]).length ≤ D.length + 1 := by split <;> simp
    rw [List.length_cons]; omega
theorem right_ok {l : List gramL.Prod} {T : Nat} {x : itemL.Item} (h : RightI l T x) (hl : l.length ≤ 40) (hw : ∀ q ∈ l, q.2.length ≤ 8) (hT : T ≤ 30) : itK.ok x := by
  obtain ⟨a1, a2, a3, a4, a5, a6⟩ := h
  have := body_len (l := l) (p := x.1) hw
  exact ⟨⟨by omega, by omega⟩, ⟨by omega, by omega⟩, by omega, by omega⟩
def itClS (g : Gram) (T : Nat) (l0 : List itemL.Item) (bp : Option Addr) (cp go gm c : Nat) : Spec ((RK → Option Value) × Nat × Value) :=
  ⟨fun x => CacheOk (lkG g) x.1 ∧ x.2.1 ≤ c + 12000, fun x => x.2.2, fun x => opL g bp cp go gm x.1 x.2.1 ++ [rowO 60 3 x.2.2 (closedI g.prods T (lkG g) l0).length ((closedI g.prods T (lkG g) l0).flatMap itC)]⟩
theorem it_ok {i j : Nat} (hi : i ≤ 1000) (hj : j ≤ 1000) : itK.ok ((i : Int), 0, (j : Int)) := by
  show (-9223372036854775808 ≤ (i : Int) ∧ (i : Int) ≤ 9223372036854775807) ∧ (-9223372036854775808 ≤ (0 : Int) ∧ (0 : Int) ≤ 9223372036854775807) ∧ (-9223372036854775808 ≤ (j : Int) ∧ (j : Int) ≤ 9223372036854775807)
  omega
theorem build_it2 (a c : Int) (w : World) : (Instr.build 60 #[(0, .int .i64 a), (2, .int .i64 c)]).run Try.prog w = .ok (.agg #[.int .i64 a, .int .i64 0, .int .i64 c]) w := by kernel_rfl
attribute [local irreducible] Op.shift Go.bits in
set_option maxHeartbeats 8000000 in
theorem itClosed_calls (g : Gram) (hg : checkG g = 0) (bp : Option Addr) (cp : Nat) (vb : Nat → Value) (w0 : World) (hG : GraR (fun q => q < w0.heap.size) w0 (graV g.terms g.nons (.slice bp g.prods.length cp)) g) (hvb : BodR (fun q => q < w0.heap.size) w0 vb g.prods) (hrp : 0 < g.prods.length → ∃ b off, bp = some ⟨b, off, none⟩ ∧ ∀ i, i < g.prods.length → Rd w0 b (off + i * 2) [.int .i64 (prodAt g.prods (i : Int)).1, vb i])
    (go gm c : Nat) (f : RK → Option Value) (T : Nat) (hTt : g.terms = (T : Int)) (hT : T ≤ 30) (l0 : List itemL.Item) (vl : Value) (h0 : ∀ x ∈ l0, RightI g.prods T x) (hl0 : l0.length ≤ 20000) (hc : CacheOk (lkG g) f) (hcc : c ≤ 900000000000000) (w : World) (B : Base) (ho : Old w0 B) (hvl : SlB B vl l0.length (l0.flatMap itC))
    (hm : Mem B (opL g bp cp go gm f c) w) :
    Calls Try.prog 52 #[.pointer (some ⟨go, 0, none⟩), vl] w (MeetsB (itClS g T l0 bp cp go gm c) B) := by
  obtain ⟨-, -, -, -, hpl, hgb⟩ := checkG_ok hg
  have hwl : ∀ q ∈ g.prods, q.2.length ≤ 8 := fun q hq => (hgb q hq).1
  have hput := fun g5 gm2 g6 b v cn out it hit hp hb hn w' B' hm' => itPut_calls g5 gm2 g6 b v cn out it hit hp hb hn w' B' hm'
  unfold opL at hm
  obtain ⟨bl, cl, rfl, hc1, hc2, hrl⟩ := hvl
  unfold maxLen at hc2
  refine enterB hm (args := [.pointer (some ⟨go, 0, none⟩), .slice bl l0.length cl]) (n := 117) Try.func52 rfl rfl rfl ?_
  repeat(first|refine QV QP ?_|refine QZ ?_|refine qcT rfl ?_|refine qcF rfl ?_|refine E_blockX ?_|refine E_blockO rfl ?_|refine qs rfl rfl rfl rfl rfl rfl ?_|((try refine qg rfl rfl rfl ?_);first|refine QV QP ?_|refine QV QL ?_|refine QV QA ?_|refine QV (rr_nilc rfl) ?_|refine QV QlT ?_|refine QV QlF ?_|refine QV QeT ?_|refine QV QeF ?_|refine QV QnT ?_|refine QV QnF ?_|refine QV QaA ?_))
  refine TL_mapT itK (z := .int .i64 0) rfl fun gm2 => ?_
  conv=>arg 8;simp only[zA,zB,zC,zD,zE,zF,zG,zH,zI,rowS,ret,id_eq]
  repeat(first|refine QV QP ?_|refine QZ ?_|refine qcT rfl ?_|refine qcF rfl ?_|refine E_blockX ?_|refine E_blockO rfl ?_|refine qs rfl rfl rfl rfl rfl rfl ?_|((try refine qg rfl rfl rfl ?_);first|refine QV QP ?_|refine QV QL ?_|refine QV QA ?_|refine QV (rr_nilc rfl) ?_|refine QV QlT ?_|refine QV QlF ?_|refine QV QeT ?_|refine QV QeF ?_|refine QV QnT ?_|refine QV QnF ?_|refine QV QaA ?_))
  refine TL_new rfl fun g5 => ?_
  conv=>arg 8;simp only[zA,zB,zC,zD,zE,zF,zG,zH,zI,rowS,ret,id_eq]
  refine TL_store1 (i := 3) rfl rfl rfl rfl rfl rfl ?_
  conv=>arg 8;simp only[zA,zB,zC,zD,zE,zF,zG,zH,zI,rowS,ret,id_eq]
  repeat(first|refine QV QP ?_|refine QZ ?_|refine qcT rfl ?_|refine qcF rfl ?_|refine E_blockX ?_|refine E_blockO rfl ?_|refine qs rfl rfl rfl rfl rfl rfl ?_|((try refine qg rfl rfl rfl ?_);first|refine QV QP ?_|refine QV QL ?_|refine QV QA ?_|refine QV (rr_nilc rfl) ?_|refine QV QlT ?_|refine QV QlF ?_|refine QV QeT ?_|refine QV QeF ?_|refine QV QnT ?_|refine QV QnF ?_|refine QV QaA ?_))
  refine TL_new rfl fun g6 => ?_
  conv=>arg 8;simp only[zA,zB,zC,zD,zE,zF,zG,zH,zI,rowS,ret,id_eq]
  repeat(first|refine QV QP ?_|refine QZ ?_|refine qcT rfl ?_|refine qcF rfl ?_|refine E_blockX ?_|refine E_blockO rfl ?_|refine qs rfl rfl rfl rfl rfl rfl ?_|((try refine qg rfl rfl rfl ?_);first|refine QV QP ?_|refine QV (rr_func rfl rfl) ?_|refine QV QL ?_|refine QV QA ?_|refine QV (rr_nilc rfl) ?_|refine QV QlT ?_|refine QV QlF ?_|refine QV QeT ?_|refine QV QeF ?_|refine QV QnT ?_|refine QV QnF ?_|refine QV QaA ?_))
  conv => arg 7; simp only [zA, zB, zC, zD, zE, zF, zG, zH, zI, rowS, ret, id_eq]
  refine T_extra (rowO 60 3 (.slice none 0 0) 0 []) (fun k hk => hk.elim (fun h => by cases h) id) (fun w => ⟨by decide, .inl ⟨rfl, rfl⟩⟩) ?_
  refine T_pick [0, 1, 3, 2, 4, 5] (by decide) rfl ?_
  conv => arg 7; simp only [zA, zB, zC, zD, zE, zF, zG, zH, zI, rowS, ret, id_eq]
  refine T_loop (ι := Nat × Value × (itemL.Item → Nat)) (fun (j, _, cn) => j ≤ l0.length ∧ PutOk cn (firsts [] (l0.take j)) (2 * j)) (fun (j, _, _) => [(0, .pointer (some ⟨go, 0, none⟩)), (6, .pointer (some ⟨g6, 0, none⟩)), (7, .func (.func 82) #[] #[.pointer (some ⟨g5, 0, none⟩), .pointer (some ⟨g6, 0, none⟩)]), (18, .slice bl l0.length cl), (19, .int .i64 (l0.length : Int)), (20, .int .i64 (j : Int))])
    (fun (j, v, cn) => [blkO go (opC g.terms g.nons (.slice bp g.prods.length cp) gm).toArray 164, mapO restK gm f c] ++ putL g5 gm2 g6 (2 * j) v cn (firsts [] (l0.take j))) (fun (j, _, _) => l0.length - j) (0, .slice none 0 0, fun _ => 0) ⟨Nat.zero_le _, ⟨fun x => by simp [firsts], fun x => Nat.zero_le _⟩⟩ (by repeat' (first | exact True.intro | refine And.intro rfl ?_)) rfl ?_
  rintro ⟨j, v, cn⟩ ⟨j1, j2⟩
  dsimp only at j1 j2 ⊢
  by_cases c1 : j < l0.length
  · obtain ⟨b, off, rfl, hb1, hb2⟩ := hrl (by omega)
    have hat := fun L => at_elL (W := B) (L := L) itC_len (off := off) (fun q u hq => at_oldB hb1 hb2 q u hq) c1
    have hx0 := h0 l0[j] (List.getElem_mem c1)
    have hxo := right_ok hx0 hpl hwl hT
    have hnd : (firsts [] (l0.take j)).length ≤ j := Nat.le_trans (firstsLe _ _) (by rw [List.length_nil, List.length_take]; omega)
    have hnx : more (firsts [] (l0.take j)) l0[j] = firsts [] (l0.take (j + 1)) := by rw [List.take_succ_eq_append_getElem c1, firsts_snoc]
    have hpo := j2.put l0[j]
    rw [hnx] at hpo
    have hput := fun w' B' hm' => hput g5 gm2 g6 (2 * j) v cn (firsts [] (l0.take j)) l0[j] hxo j2 (by omega) (by omega) w' B' hm'
    rw [hnx] at hput
    generalize firsts [] (l0.take j) = out at *
    generalize hoq : firsts [] (l0.take (j + 1)) = out' at *
    generalize l0[j] = x at *
    repeat(first|refine QV QP ?_|refine QZ ?_|refine qcT rfl ?_|refine qcF rfl ?_|refine E_blockX ?_|refine E_blockO rfl ?_|refine qs rfl rfl rfl rfl rfl rfl ?_|((try refine qg rfl rfl rfl ?_);first|refine QV QP ?_|refine QV (rr_idxc Und.eq TyC.ty rfl rfl c1) ?_|refine QV (rr_loadN TyC.ty rfl (itC_len x) (hat _)) ?_|refine QV QL ?_|refine QV QA ?_|refine QV (rr_nilc rfl) ?_|refine QV QlT ?_|refine QV QlF ?_|refine QV QeT ?_|refine QV QeF ?_|refine QV QnT ?_|refine QV QnF ?_|refine QV QaA ?_))
    refine TL_new rfl fun g9 => ?_
    conv=>arg 8;simp only[zA,zB,zC,zD,zE,zF,zG,zH,zI,rowS,ret,id_eq]
    refine TL_storeB (i := 6) (cs' := (itC x).toArray) rfl rfl rfl rfl rfl rfl ?_
    conv=>arg 8;simp only[zA,zB,zC,zD,zE,zF,zG,zH,zI,rowS,ret,id_eq]
    repeat(first|refine QV QP ?_|refine QZ ?_|refine qcT rfl ?_|refine qcF rfl ?_|refine E_blockX ?_|refine E_blockO rfl ?_|refine qs rfl rfl rfl rfl rfl rfl ?_|((try refine qg rfl rfl rfl ?_);first|refine QV QP ?_|refine QV (rr_loadB (i := 6) TyC.ty rfl rfl rfl) ?_|refine QV QL ?_|refine QV QA ?_|refine QV (rr_nilc rfl) ?_|refine QV QlT ?_|refine QV QlF ?_|refine QV QeT ?_|refine QV QeF ?_|refine QV QnT ?_|refine QV QnF ?_|refine QV QaA ?_))
    refine TL_callB [2, 3, 4, 5] [0, 1, 6] (by decide) rfl rfl (he1c EntersC.en rfl rfl) (fun w hm hb => hput w _ hb) rfl rfl rfl ?_
    intro v' _
    conv=>arg 8;simp only[zA,zB,zC,zD,zE,zF,zG,zH,zI,rowS,ret,id_eq]
    repeat(first|refine QV QP ?_|refine QZ ?_|refine qcT rfl ?_|refine qcF rfl ?_|refine E_blockX ?_|refine E_blockO rfl ?_|refine qs rfl rfl rfl rfl rfl rfl ?_|((try refine qg rfl rfl rfl ?_);first|refine QV QP ?_|refine QV QL ?_|refine QV QA ?_|refine QV (rr_nilc rfl) ?_|refine QV QlT ?_|refine QV QlF ?_|refine QV QeT ?_|refine QV QeF ?_|refine QV QnT ?_|refine QV QnF ?_|refine QV QaA ?_))
    refine E_pick [0, 1, 3, 4, 5, 6] (by decide) rfl ?_
    exact E_round (j + 1, v', itUp cn x) ⟨by show j + 1 ≤ l0.length; omega, by show PutOk _ (firsts [] (l0.take (j + 1))) _; rw [hoq]; exact hpo⟩ (by show l0.length - (j + 1) < l0.length - j; omega) (by repeat' (first | exact True.intro | refine And.intro rfl ?_)) (by dsimp only; rw [hoq]; rfl)
  · obtain rfl : j = l0.length := by omega
    rw [List.take_length] at j2
    have hfl : (firsts [] l0).length ≤ 20000 := Nat.le_trans (firstsLe _ _) (by rw [List.length_nil]; omega)
    clear hrl
    repeat(first|refine QV QP ?_|refine QZ ?_|refine qcT rfl ?_|refine qcF rfl ?_|refine E_blockX ?_|refine E_blockO rfl ?_|refine qs rfl rfl rfl rfl rfl rfl ?_|((try refine qg rfl rfl rfl ?_);first|refine QV QP ?_|refine QV QL ?_|refine QV QA ?_|refine QV (rr_nilc rfl) ?_|refine QV QlT ?_|refine QV QlF ?_|refine QV QeT ?_|refine QV QeF ?_|refine QV QnT ?_|refine QV QnF ?_|refine QV QaA ?_))
    conv => arg 7; simp only [zA, zB, zC, zD, zE, zF, zG, zH, zI, rowS, ret, id_eq, List.take_length, putL, List.cons_append, List.nil_append]
    refine T_loop (ι := Nat × List itemL.Item × (RK → Option Value) × Nat × Value × (itemL.Item → Nat) × Nat) (fun (n, out, f', c', _, cn', b) => WkI g.prods T (lkG g) l0 n out ∧ workI g.prods T (lkG g) (12000 - n) n out = workI g.prods T (lkG g) 12000 0 (firsts [] l0) ∧ CacheOk (lkG g) f' ∧ c' ≤ c + n ∧ PutOk cn' out b ∧ b ≤ 40000 + 2480 * n)
      (fun (n, _, _, _, _, _, _) => [(0, .pointer (some ⟨go, 0, none⟩)), (6, .pointer (some ⟨g6, 0, none⟩)), (7, .func (.func 82) #[] #[.pointer (some ⟨g5, 0, none⟩), .pointer (some ⟨g6, 0, none⟩)]), (10, .int .i64 (n : Int))])
      (fun (_, out, f', c', v', cn', b) => [blkO go (opC g.terms g.nons (.slice bp g.prods.length cp) gm).toArray 164, mapO restK gm f' c', blkO g5 #[.map (some gm2)] 165, mapT itK gm2 (.int .i64 0) (itCnt cn') b, blkO g6 #[v'] 51, rowO 60 3 v' out.length (out.flatMap itC)]) (fun (n, _) => 12000 - n) (0, firsts [] l0, f, c, v, cn, 2 * l0.length) ⟨wk_start l0, rfl, hc, Nat.le_refl _, j2, by omega⟩ (by repeat' (first | exact True.intro | refine And.intro rfl ?_)) rfl ?_
    rintro ⟨n, out, f', c', v', cn', b⟩ ⟨i1, i2, i3, i4, i5, i6⟩
    dsimp only at i1 i2 i3 i4 i5 i6 ⊢
    have hfew := items_few hwl hpl hT i1.nd fun x hx => right_cl h0 (i1.cl x hx)
    refine T_know (i := 5) rfl row_slm fun hrow => ?_
    obtain ⟨bv, cv, rfl, -, hab⟩ := hrow
    by_cases c2 : n < out.length
    · obtain ⟨gz, rfl⟩ := hab (by omega)
      have hcl := i1.cl out[n] (List.getElem_mem c2)
      have hxr := right_cl h0 hcl
      have hat := fun (L : List Own) (i : Nat) (hL : L[i]? = some (rowO 60 3 (.slice (some ⟨gz, 0, none⟩) out.length cv) out.length (out.flatMap itC))) => at_rowel (W := B) itC_len hL c2
      have hwx : workI g.prods T (lkG g) (12000 - (n + 1)) (n + 1) (expI g.prods T (lkG g) out[n] out) = workI g.prods T (lkG g) 12000 0 (firsts [] l0) := by
        rw [← i2, show 12000 - n = (12000 - (n + 1)) + 1 by omega, workI, if_pos c2, List.getD_eq_getElem?_getD, List.getElem?_eq_getElem c2]; rfl
      have hwk := wk_step i1 c2
      clear i2 hcl
      generalize hxx : out[n] = x at *
      obtain ⟨p, d, lo⟩ := x
      have hxr2 := hxr
      obtain ⟨r1, r2, r3, r4, r5, r6⟩ := hxr2
      dsimp only at r1 r2 r3 r4 r5 r6
      obtain ⟨k, rfl⟩ := Int.eq_ofNat_of_zero_le r1
      obtain ⟨dn, rfl⟩ := Int.eq_ofNat_of_zero_le r3
      obtain ⟨ln, rfl⟩ := Int.eq_ofNat_of_zero_le r5
      have hk : k ≤ g.prods.length := by omega
      have hbd := fun w' (hm' : Mem B [] w') => itBody_calls g.terms g.nons bp cp g.prods vb w0 w' B k hk ho hm' (fun i hi => let ⟨b, c, h, _⟩ := hvb i hi; ⟨b, _, c, h⟩) hrp
      repeat(first|refine QV QP ?_|refine QZ ?_|refine qcT rfl ?_|refine qcF rfl ?_|refine E_blockX ?_|refine E_blockO rfl ?_|refine qs rfl rfl rfl rfl rfl rfl ?_|((try refine qg rfl rfl rfl ?_);first|refine QV QP ?_|refine QV (rr_load1 (v := .slice (some ⟨gz, 0, none⟩) out.length cv) TyC.ty rfl (at_blk (i := 4) rfl rfl)) ?_|refine QV (rr_rowlen (i := 5) Und.eq rfl rfl) ?_|refine QV QL ?_|refine QV QA ?_|refine QV (rr_nilc rfl) ?_|refine QV QlT ?_|refine QV QlF ?_|refine QV QeT ?_|refine QV QeF ?_|refine QV QnT ?_|refine QV QnF ?_|refine QV QaA ?_))
      refine T_ord ([blkO go (opC g.terms g.nons (.slice bp g.prods.length cp) gm).toArray 164, blkO g6 #[.slice (some ⟨gz, 0, none⟩) out.length cv] 51, rowO 60 3 (.slice (some ⟨gz, 0, none⟩) out.length cv) out.length (out.flatMap itC)]) (.calm 0 (.calm 1 (.calm 2 (.calm 3 (.calm 4 (.calm 5 (.calm 6 (.calm 7 (.calm 8 (.one 9 (.calm 10 (.done)))))))))))) (sub_pick [0, 4, 5] (by decide) rfl) (by kernel_rfl) (by kernel_rfl) (by intro c a d v w h; cases d <;> exact h) ?_
      repeat(first|((first|refine TW_plain rfl rfl ?_|refine TW_gmet rfl rfl rfl rfl ?_);first|refine QW QP ?_|refine QW (rr_nilc rfl) ?_|refine QW (rr_loadN TyC.ty rfl (cs := [.int .i64 g.terms, .int .i64 g.nons, .slice bp g.prods.length cp]) rfl (fun j v h => at_blk (i := 0) rfl (op_gram h))) ?_|refine QW (rr_load1 (v := .slice (some ⟨gz, 0, none⟩) out.length cv) TyC.ty rfl (at_blk (i := 1) rfl rfl)) ?_|refine QW (rr_idxc Und.eq TyC.ty rfl rfl c2) ?_|refine QW (rr_load1 (v := .int .i64 (k : Int)) TyC.ty rfl (hat _ 2 rfl 0 _ rfl)) ?_|refine QW QL ?_|refine QW QA ?_|refine QW (rr_nilc rfl) ?_|refine QW QlT ?_|refine QW QlF ?_|refine QW QeT ?_|refine QW QeF ?_|refine QW QnT ?_|refine QW QnF ?_|refine QW QaA ?_)|refine TW_skip rfl rfl rfl rfl rfl rfl rfl ?_|refine TW_done ?_)
      refine TW_one rfl ?_
      refine TL_call (he2 EntersC.en rfl rfl rfl) (fun w hm => hbd _ (hm.pick [] (by decide) rfl)) rfl rfl rfl ?_
      rintro xb hxb
      conv=>arg 8;simp only[zA,zB,zC,zD,zE,zF,zG,zH,zI,rowS,ret,id_eq, bodyS]
      conv => arg 7; simp only [bodyS]
      obtain ⟨bb, cc, hbv, hlc, -⟩ := body_slL (W := B) (i := 6) (L := [blkO go (opC g.terms g.nons (.slice bp g.prods.length cp) gm).toArray 164, mapO restK gm f' c', blkO g5 #[.map (some gm2)] 165, mapT itK gm2 (.int .i64 0) (itCnt cn') b, blkO g6 #[.slice (some ⟨gz, 0, none⟩) out.length cv] 51, rowO 60 3 (.slice (some ⟨gz, 0, none⟩) out.length cv) out.length (out.flatMap itC), bodO xb]) ho hvb hk hxb rfl
      have hsl := fun (L : List Own) (i : Nat) (hi : L[i]? = some (bodO xb)) => (body_slL (W := B) (L := L) ho hvb hk hxb hi)
      rw [hbv] at hsl ⊢
      have hb8 := body_len (l := g.prods) (p := (k : Int)) hwl
      refine TW_on (sub_pick [0, 4, 5] (by decide) rfl) ?_
      repeat(first|((first|refine TW_plain rfl rfl ?_|refine TW_gmet rfl rfl rfl rfl ?_);first|refine QW QP ?_|refine QW QL ?_|refine QW QA ?_|refine QW (rr_nilc rfl) ?_|refine QW QlT ?_|refine QW QlF ?_|refine QW QeT ?_|refine QW QeF ?_|refine QW QnT ?_|refine QW QnF ?_|refine QW QaA ?_)|refine TW_skip rfl rfl rfl rfl rfl rfl rfl ?_|refine TW_done ?_)
      clear hbd
      by_cases c3 : dn = (bodyI g.prods (k : Int)).length
      · repeat(first|refine QV QP ?_|refine QZ ?_|refine qcT rfl ?_|refine qcF rfl ?_|refine E_blockX ?_|refine E_blockO rfl ?_|refine qs rfl rfl rfl rfl rfl rfl ?_|((try refine qg rfl rfl rfl ?_);first|refine QV QP ?_|refine QV (rr_load1 (v := .slice (some ⟨gz, 0, none⟩) out.length cv) TyC.ty rfl (at_blk (i := 4) rfl rfl)) ?_|refine QV (rr_idxc Und.eq TyC.ty rfl rfl c2) ?_|refine QV (rr_load1 (v := .int .i64 (dn : Int)) TyC.ty rfl (hat _ 5 rfl 1 _ rfl)) ?_|refine QV (rr_eql (b := true) rfl rfl (decide_eq_true (by omega))) ?_|refine QV QL ?_|refine QV QA ?_|refine QV (rr_nilc rfl) ?_|refine QV QlT ?_|refine QV QlF ?_|refine QV QeT ?_|refine QV QeF ?_|refine QV QnT ?_|refine QV QnF ?_|refine QV QaA ?_))
        have hexp : expI g.prods T (lkG g) ((k : Int), (dn : Int), (ln : Int)) out = out := by
          unfold expI nextS
          dsimp only
          rw [Int.toNat_natCast, List.getElem?_eq_none (by omega)]
        rw [hexp] at hwk hwx
        refine E_pick [0, 1, 2, 3, 4, 5] (by decide) rfl ?_
        exact E_round (n + 1, out, f', c', .slice (some ⟨gz, 0, none⟩) out.length cv, cn', b) ⟨hwk, hwx, i3, by show c' ≤ c + (n + 1); omega, i5, by show b ≤ 40000 + 2480 * (n + 1); omega⟩ (by show 12000 - (n + 1) < 12000 - n; omega) (by repeat' (first | exact True.intro | refine And.intro rfl ?_)) rfl
      · have hlt : dn < (bodyI g.prods (k : Int)).length := by omega
        obtain ⟨b2, o2, rfl, hba⟩ := body_at ho hvb hk hxb hbv hlt
        have hnx : nextS g.prods ((k : Int), (dn : Int), (ln : Int)) = some (bodyI g.prods (k : Int))[dn] := by
          unfold nextS
          dsimp only
          rw [Int.toNat_natCast, List.getElem?_eq_getElem hlt]
        generalize hyy : (bodyI g.prods (k : Int))[dn] = y at *
        obtain ⟨yk, yn⟩ := y
        by_cases c4 : yk = 2
        · subst c4
          have hexp : expI g.prods T (lkG g) ((k : Int), (dn : Int), (ln : Int)) out = expProd g.prods T yn (looksI (lkG g) ((k : Int), (dn : Int), (ln : Int))) out g.prods.length := by
            unfold expI
            rw [hnx]
            dsimp only
            rw [if_pos rfl]
          rw [hexp] at hwk hwx
          repeat(first|refine QV QP ?_|refine QZ ?_|refine qcT rfl ?_|refine qcF rfl ?_|refine E_blockX ?_|refine E_blockO rfl ?_|refine qs rfl rfl rfl rfl rfl rfl ?_|((try refine qg rfl rfl rfl ?_);first|refine QV QP ?_|refine QV (rr_load1 (v := .slice (some ⟨gz, 0, none⟩) out.length cv) TyC.ty rfl (at_blk (i := 4) rfl rfl)) ?_|refine QV (rr_idxc Und.eq TyC.ty rfl rfl c2) ?_|refine QV (rr_idxc Und.eq TyC.ty rfl rfl hlt) ?_|refine QV (rr_load1 (v := .int .i64 (dn : Int)) TyC.ty rfl (hat _ 5 rfl 1 _ rfl)) ?_|refine QV (rr_eql (b := false) rfl rfl (decide_eq_false (by omega))) ?_|refine QV (rr_load1 (v := .int .i64 2) TyC.ty rfl (hba _ 6 rfl 0 _ rfl)) ?_|refine QV (rr_neq (b := false) rfl rfl (decide_eq_false (fun h => h rfl))) ?_|refine QV (rr_loadN (cs := itC ((k : Int), (dn : Int), (ln : Int))) TyC.ty rfl rfl (hat _ 5 rfl)) ?_|refine QV QL ?_|refine QV QA ?_|refine QV (rr_nilc rfl) ?_|refine QV QlT ?_|refine QV QlF ?_|refine QV QeT ?_|refine QV QeF ?_|refine QV QnT ?_|refine QV QnF ?_|refine QV QaA ?_))
          refine TL_callB [0, 1] [2, 3, 4, 5, 6] (by decide) rfl rfl (he2 EntersC.en rfl rfl rfl) (fun w hm hb => looks_calls g hg bp cp vb w0 hG hvb hrp go gm c' f' ((k : Int), (dn : Int), (ln : Int)) T hT hxr (by dsimp only; rw [Int.toNat_natCast]; exact hlt) i3 (by omega) w _ (ho.on hm fun o h => pickMem h) hb) rfl rfl rfl ?_
          rintro ⟨f2, c2'⟩ ⟨hf2, hc2'⟩
          dsimp only at hf2 hc2'
          conv=>arg 8;simp only[zA,zB,zC,zD,zE,zF,zG,zH,zI,rowS,ret,id_eq]
          have hblt := looksI_lt g (it := ((k : Int), (dn : Int), (ln : Int))) (by show ((ln : Int)).toNat < 64; omega)
          generalize looksI (lkG g) ((k : Int), (dn : Int), (ln : Int)) = bits at *
          repeat(first|refine QV QP ?_|refine QZ ?_|refine qcT rfl ?_|refine qcF rfl ?_|refine E_blockX ?_|refine E_blockO rfl ?_|refine qs rfl rfl rfl rfl rfl rfl ?_|((try refine qg rfl rfl rfl ?_);first|refine QV QP ?_|refine QV (rr_load1 (v := .slice bp g.prods.length cp) TyC.ty rfl (at_blk (i := 5) rfl rfl)) ?_|refine QV QL ?_|refine QV QA ?_|refine QV (rr_nilc rfl) ?_|refine QV QlT ?_|refine QV QlF ?_|refine QV QeT ?_|refine QV QeF ?_|refine QV QnT ?_|refine QV QnF ?_|refine QV QaA ?_))
          refine T_pick [5, 6, 0, 1, 2, 3, 4] (by decide) rfl ?_
          conv => arg 7; simp only [zA, zB, zC, zD, zE, zF, zG, zH, zI, rowS, ret, id_eq]
          refine T_loop (ι := Nat × Value × (itemL.Item → Nat) × Nat) (fun (i, _, cn2, b3) => i ≤ g.prods.length ∧ PutOk cn2 (expProd g.prods T yn bits out i) b3 ∧ b3 ≤ b + 62 * i)
            (fun (i, _, _, _) => [(0, .pointer (some ⟨go, 0, none⟩)), (6, .pointer (some ⟨g6, 0, none⟩)), (7, .func (.func 82) #[] #[.pointer (some ⟨g5, 0, none⟩), .pointer (some ⟨g6, 0, none⟩)]), (10, .int .i64 (n : Int)), (11, .slice (some ⟨b2, o2, none⟩) (bodyI g.prods (k : Int)).length cc), (12, bitV bits), (74, .slice bp g.prods.length cp), (75, .int .i64 (g.prods.length : Int)), (76, .int .i64 (i : Int))])
            (fun (i, v2, cn2, b3) => [blkO go (opC g.terms g.nons (.slice bp g.prods.length cp) gm).toArray 164, mapO restK gm f2 c2', blkO g5 #[.map (some gm2)] 165, mapT itK gm2 (.int .i64 0) (itCnt cn2) b3, blkO g6 #[v2] 51, rowO 60 3 v2 (expProd g.prods T yn bits out i).length ((expProd g.prods T yn bits out i).flatMap itC), bodO xb]) (fun (i, _) => g.prods.length - i) (0, .slice (some ⟨gz, 0, none⟩) out.length cv, cn', b) ⟨Nat.zero_le _, i5, by omega⟩ (by repeat' (first | exact True.intro | refine And.intro rfl ?_)) rfl ?_
          rintro ⟨i, v2, cn2, b3⟩ ⟨p1, p2, p3⟩
          dsimp only at p1 p2 p3 ⊢
          by_cases c5 : i < g.prods.length
          · obtain ⟨E, hE⟩ := expProd_pre (l := g.prods) (T := T) yn bits out i
            have hnd := expProd_le (l := g.prods) (T := T) (N := yn) (bits := bits) (out := out) i
            have hnx2 : expProd g.prods T yn bits out (i + 1) = if (prodAt g.prods (i : Int)).1 = yn then expLook i bits (expProd g.prods T yn bits out i) (T + 1) else expProd g.prods T yn bits out i := rfl
            have hm30 : i * (T + 1) ≤ 40 * 31 := Nat.mul_le_mul (by omega) (by omega)
            generalize hou : expProd g.prods T yn bits out i = ou at *
            have hno : n < ou.length := by rw [hE, List.length_append]; omega
            have hox : ou[n] = ((k : Int), (dn : Int), (ln : Int)) := by
              subst hE
              rw [List.getElem_append_left c2]; exact hxx
            refine T_know (i := 5) rfl row_slm fun hrow => ?_
            obtain ⟨bv2, cv2, rfl, -, hab2⟩ := hrow
            obtain ⟨gz2, rfl⟩ := hab2 (by omega)
            have hat2 := fun (L : List Own) (i : Nat) (hL : L[i]? = some (rowO 60 3 (.slice (some ⟨gz2, 0, none⟩) ou.length cv2) ou.length (ou.flatMap itC))) => at_rowel (W := B) itC_len hL hno
            rw [hox] at hat2
            obtain ⟨pb, po, rfl, hpr⟩ := hrp (by omega)
            have hpi := hpr i c5
            have hvo : (vb i).oneCell' = true := slf_one (hvb i c5)
            generalize hhd : (prodAt g.prods (i : Int)).1 = hd at *
            generalize vb i = vbi at hpi hvo
            repeat(first|refine QV QP ?_|refine QZ ?_|refine qcT rfl ?_|refine qcF rfl ?_|refine E_blockX ?_|refine E_blockO rfl ?_|refine qs rfl rfl rfl rfl rfl rfl ?_|((try refine qg rfl rfl rfl ?_);first|refine QV QP ?_|refine QV (rr_idxc Und.eq TyC.ty rfl rfl c5) ?_|refine QV (rr_loadN TyC.ty rfl (cs := [.int .i64 hd, vbi]) rfl (fun j v h => at_old0 ho (hpi j v h))) ?_|refine QV QL ?_|refine QV QA ?_|refine QV (rr_nilc rfl) ?_|refine QV QlT ?_|refine QV QlF ?_|refine QV QeT ?_|refine QV QeF ?_|refine QV QnT ?_|refine QV QnF ?_|refine QV QaA ?_))
            refine TL_new rfl fun g14 => ?_
            conv=>arg 8;simp only[zA,zB,zC,zD,zE,zF,zG,zH,zI,rowS,ret,id_eq]
            repeat(first|refine QV QP ?_|refine QZ ?_|refine qcT rfl ?_|refine qcF rfl ?_|refine E_blockX ?_|refine E_blockO rfl ?_|refine qs rfl rfl rfl rfl rfl rfl ?_|((try refine qg rfl rfl rfl ?_);first|refine QV QP ?_|refine QV QL ?_|refine QV QA ?_|refine QV (rr_nilc rfl) ?_|refine QV QlT ?_|refine QV QlF ?_|refine QV QeT ?_|refine QV QeF ?_|refine QV QnT ?_|refine QV QnF ?_|refine QV QaA ?_))
            refine TL_storeB (i := 7) (cs' := #[.int .i64 hd, vbi]) rfl rfl rfl rfl (by simp only [List.all_cons, List.all_nil, hvo]; rfl) rfl ?_
            conv=>arg 8;simp only[zA,zB,zC,zD,zE,zF,zG,zH,zI,rowS,ret,id_eq]
            repeat(first|refine QV QP ?_|refine QZ ?_|refine qcT rfl ?_|refine qcF rfl ?_|refine E_blockX ?_|refine E_blockO rfl ?_|refine qs rfl rfl rfl rfl rfl rfl ?_|((try refine qg rfl rfl rfl ?_);first|refine QV QP ?_|refine QV QL ?_|refine QV QA ?_|refine QV (rr_nilc rfl) ?_|refine QV QlT ?_|refine QV QlF ?_|refine QV QeT ?_|refine QV QeF ?_|refine QV QnT ?_|refine QV QnF ?_|refine QV QaA ?_))
            refine T_ord ([blkO g14 #[.int .i64 hd, vbi] 68, blkO g6 #[.slice (some ⟨gz2, 0, none⟩) ou.length cv2] 51, rowO 60 3 (.slice (some ⟨gz2, 0, none⟩) ou.length cv2) ou.length (ou.flatMap itC), bodO xb]) (.calm 0 (.calm 1 (.calm 2 (.calm 3 (.calm 4 (.calm 5 (.calm 6 (.calm 7 (.calm 8 (.calm 9 (.calm 10 (.calm 11 (.done))))))))))))) (sub_pick [7, 4, 5, 6] (by decide) rfl) (by kernel_rfl) (by kernel_rfl) (by intro c a d v w h; cases d <;> exact h) ?_
            by_cases c6 : hd = yn
            · rw [if_pos c6] at hnx2
              repeat(first|((first|refine TW_plain rfl rfl ?_|refine TW_gmet rfl rfl rfl rfl ?_);first|refine QW QP ?_|refine QW (rr_load1 (v := .int .i64 hd) TyC.ty rfl (at_blk (i := 0) rfl rfl)) ?_|refine QW (rr_load1 (v := .slice (some ⟨gz2, 0, none⟩) ou.length cv2) TyC.ty rfl (at_blk (i := 1) rfl rfl)) ?_|refine QW (rr_idxc Und.eq TyC.ty rfl rfl hno) ?_|refine QW (rr_load1 (v := .int .i64 (dn : Int)) TyC.ty rfl (hat2 _ 2 rfl 1 _ rfl)) ?_|refine QW (rr_idxc Und.eq TyC.ty rfl rfl hlt) ?_|refine QW (rr_load1 (v := .int .i64 yn) TyC.ty rfl (hba _ 3 rfl 1 _ rfl)) ?_|refine QW (rr_neq (b := false) rfl rfl (decide_eq_false (fun h => h c6))) ?_|refine QW QL ?_|refine QW QA ?_|refine QW (rr_nilc rfl) ?_|refine QW QlT ?_|refine QW QlF ?_|refine QW QeT ?_|refine QW QeF ?_|refine QW QnT ?_|refine QW QnF ?_|refine QW QaA ?_)|refine TW_skip rfl rfl rfl rfl rfl rfl rfl ?_|refine TW_done ?_)
              repeat(first|refine QV QP ?_|refine QZ ?_|refine qcT rfl ?_|refine qcF rfl ?_|refine E_blockX ?_|refine E_blockO rfl ?_|refine qs rfl rfl rfl rfl rfl rfl ?_|((try refine qg rfl rfl rfl ?_);first|refine QV QP ?_|refine QV (rr_load1 (v := .int .i64 g.terms) TyC.ty rfl (at_blk (i := 0) rfl rfl)) ?_|refine QV (rr_add64 (r := ((T + 1 : Nat) : Int)) rfl rfl (by omega) (by omega) (by omega)) ?_|refine QV QL ?_|refine QV QA ?_|refine QV (rr_nilc rfl) ?_|refine QV QlT ?_|refine QV QlF ?_|refine QV QeT ?_|refine QV QeF ?_|refine QV QnT ?_|refine QV QnF ?_|refine QV QaA ?_))
              refine T_pick [0, 1, 2, 3, 4, 5, 6] (by decide) rfl ?_
              conv => arg 7; simp only [zA, zB, zC, zD, zE, zF, zG, zH, zI, rowS, ret, id_eq]
              refine T_loop (ι := Nat × Value × (itemL.Item → Nat) × Nat) (fun (j, _, cn3, b4) => j ≤ T + 1 ∧ PutOk cn3 (expLook i bits ou j) b4 ∧ b4 ≤ b3 + 2 * j)
                (fun (j, _, _, _) => [(0, .pointer (some ⟨go, 0, none⟩)), (6, .pointer (some ⟨g6, 0, none⟩)), (7, .func (.func 82) #[] #[.pointer (some ⟨g5, 0, none⟩), .pointer (some ⟨g6, 0, none⟩)]), (10, .int .i64 (n : Int)), (11, .slice (some ⟨b2, o2, none⟩) (bodyI g.prods (k : Int)).length cc), (12, bitV bits), (13, .int .i64 (i : Int)), (74, .slice (some ⟨pb, po, none⟩) g.prods.length cp), (75, .int .i64 (g.prods.length : Int)), (76, .int .i64 (i : Int)), (98, .int .i64 ((T + 1 : Nat) : Int)), (99, .int .i64 (j : Int))])
                (fun (j, v3, cn3, b4) => [blkO go (opC g.terms g.nons (.slice (some ⟨pb, po, none⟩) g.prods.length cp) gm).toArray 164, mapO restK gm f2 c2', blkO g5 #[.map (some gm2)] 165, mapT itK gm2 (.int .i64 0) (itCnt cn3) b4, blkO g6 #[v3] 51, rowO 60 3 v3 (expLook i bits ou j).length ((expLook i bits ou j).flatMap itC), bodO xb]) (fun (j, _) => T + 1 - j) (0, .slice (some ⟨gz2, 0, none⟩) ou.length cv2, cn2, b3) ⟨Nat.zero_le _, p2, by omega⟩ (by repeat' (first | exact True.intro | refine And.intro rfl ?_)) rfl ?_
              rintro ⟨j, v3, cn3, b4⟩ ⟨s1, s2, s3⟩
              dsimp only at s1 s2 s3 ⊢
              by_cases c7 : j < T + 1
              · have hle6 := expLook_le (i := i) (bits := bits) (out := ou) j
                have hnx3 : expLook i bits ou (j + 1) = if bits.testBit j = true then more (expLook i bits ou j) ((i : Int), 0, (j : Int)) else expLook i bits ou j := rfl
                have hpo := s2.put ((i : Int), 0, (j : Int))
                have hdv : bits / 2 ^ j ≤ bits := Nat.div_le_self _ _
                have ha1 := and1 (y := bits / 2 ^ j) (by omega)
                have hs1 : ∀ w, (Op.shift .shr .u64 (bits : Int) .i64 (j : Int)).run Try.prog w = .ok (.int .u64 ((bits / 2 ^ j : Nat) : Int)) w := fun w => shrU2 bits j 64 .u64 .i64 rfl (by omega) w
                have hbd := bit_dec bits j
                generalize hol : expLook i bits ou j = ol at *
                generalize bits / 2 ^ j = D1 at *
                by_cases c8 : bits.testBit j = true
                · rw [if_pos c8] at hnx3
                  have hb1 : D1 % 2 = 1 := by rw [c8] at hbd; simpa using hbd
                  repeat(first|refine QV QP ?_|refine QZ ?_|refine qcT rfl ?_|refine qcF rfl ?_|refine E_blockX ?_|refine E_blockO rfl ?_|refine qs rfl rfl rfl rfl rfl rfl ?_|((try refine qg rfl rfl rfl ?_);first|refine QV QP ?_|refine QV (rr_shr rfl rfl hs1) ?_|refine QV (rr_and rfl rfl ha1) ?_|refine QV (rr_eql (b := true) rfl rfl (decide_eq_true (by omega))) ?_|refine QV (rr_build rfl (build_it2 _ _)) ?_|refine QV QL ?_|refine QV QA ?_|refine QV (rr_nilc rfl) ?_|refine QV QlT ?_|refine QV QlF ?_|refine QV QeT ?_|refine QV QeF ?_|refine QV QnT ?_|refine QV QnF ?_|refine QV QaA ?_))
                  refine TL_callB [2, 3, 4, 5] [0, 1, 6] (by decide) rfl rfl (he1c EntersC.en rfl rfl) (fun w hm hb => hput g5 gm2 g6 b4 v3 cn3 ol ((i : Int), 0, (j : Int)) (it_ok (by omega) (by omega)) s2 (by omega) (by omega) w _ hb) rfl rfl rfl ?_
                  intro v4 _
                  conv=>arg 8;simp only[zA,zB,zC,zD,zE,zF,zG,zH,zI,rowS,ret,id_eq, putL]
                  repeat(first|refine QV QP ?_|refine QZ ?_|refine qcT rfl ?_|refine qcF rfl ?_|refine E_blockX ?_|refine E_blockO rfl ?_|refine qs rfl rfl rfl rfl rfl rfl ?_|((try refine qg rfl rfl rfl ?_);first|refine QV QP ?_|refine QV QL ?_|refine QV QA ?_|refine QV (rr_nilc rfl) ?_|refine QV QlT ?_|refine QV QlF ?_|refine QV QeT ?_|refine QV QeF ?_|refine QV QnT ?_|refine QV QnF ?_|refine QV QaA ?_))
                  refine E_pick [0, 1, 3, 4, 5, 6, 2] (by decide) rfl ?_
                  exact E_round (j + 1, v4, itUp cn3 ((i : Int), 0, (j : Int)), b4 + 2) ⟨by show j + 1 ≤ T + 1; omega, by show PutOk _ (expLook i bits ou (j + 1)) _; rw [hnx3]; exact hpo, by show b4 + 2 ≤ b3 + 2 * (j + 1); omega⟩ (by show T + 1 - (j + 1) < T + 1 - j; omega) (by repeat' (first | exact True.intro | refine And.intro rfl ?_)) (by dsimp only; rw [hnx3]; rfl)
                · rw [if_neg c8] at hnx3
                  have hb1 : ¬ D1 % 2 = 1 := by rw [Bool.eq_false_iff.2 c8] at hbd; simpa using hbd
                  repeat(first|refine QV QP ?_|refine QZ ?_|refine qcT rfl ?_|refine qcF rfl ?_|refine E_blockX ?_|refine E_blockO rfl ?_|refine qs rfl rfl rfl rfl rfl rfl ?_|((try refine qg rfl rfl rfl ?_);first|refine QV QP ?_|refine QV (rr_shr rfl rfl hs1) ?_|refine QV (rr_and rfl rfl ha1) ?_|refine QV (rr_eql (b := false) rfl rfl (decide_eq_false (by omega))) ?_|refine QV QL ?_|refine QV QA ?_|refine QV (rr_nilc rfl) ?_|refine QV QlT ?_|refine QV QlF ?_|refine QV QeT ?_|refine QV QeF ?_|refine QV QnT ?_|refine QV QnF ?_|refine QV QaA ?_))
                  exact E_round (j + 1, v3, cn3, b4) ⟨by show j + 1 ≤ T + 1; omega, by show PutOk _ (expLook i bits ou (j + 1)) _; rw [hnx3]; exact s2, by show b4 ≤ b3 + 2 * (j + 1); omega⟩ (by show T + 1 - (j + 1) < T + 1 - j; omega) (by repeat' (first | exact True.intro | refine And.intro rfl ?_)) (by dsimp only; rw [hnx3])
              · obtain rfl : j = T + 1 := by omega
                repeat(first|refine QV QP ?_|refine QZ ?_|refine qcT rfl ?_|refine qcF rfl ?_|refine E_blockX ?_|refine E_blockO rfl ?_|refine qs rfl rfl rfl rfl rfl rfl ?_|((try refine qg rfl rfl rfl ?_);first|refine QV QP ?_|refine QV QL ?_|refine QV QA ?_|refine QV (rr_nilc rfl) ?_|refine QV QlT ?_|refine QV QlF ?_|refine QV QeT ?_|refine QV QeF ?_|refine QV QnT ?_|refine QV QnF ?_|refine QV QaA ?_))
                exact E_round (i + 1, v3, cn3, b4) ⟨by show i + 1 ≤ g.prods.length; omega, by show PutOk cn3 (expProd g.prods T yn bits out (i + 1)) b4; rw [hnx2]; exact s2, by show b4 ≤ b + 62 * (i + 1); omega⟩ (by show g.prods.length - (i + 1) < g.prods.length - i; omega) (by repeat' (first | exact True.intro | refine And.intro rfl ?_)) (by dsimp only; rw [hnx2])
            · rw [if_neg c6] at hnx2
              repeat(first|((first|refine TW_plain rfl rfl ?_|refine TW_gmet rfl rfl rfl rfl ?_);first|refine QW QP ?_|refine QW (rr_load1 (v := .int .i64 hd) TyC.ty rfl (at_blk (i := 0) rfl rfl)) ?_|refine QW (rr_load1 (v := .slice (some ⟨gz2, 0, none⟩) ou.length cv2) TyC.ty rfl (at_blk (i := 1) rfl rfl)) ?_|refine QW (rr_idxc Und.eq TyC.ty rfl rfl hno) ?_|refine QW (rr_load1 (v := .int .i64 (dn : Int)) TyC.ty rfl (hat2 _ 2 rfl 1 _ rfl)) ?_|refine QW (rr_idxc Und.eq TyC.ty rfl rfl hlt) ?_|refine QW (rr_load1 (v := .int .i64 yn) TyC.ty rfl (hba _ 3 rfl 1 _ rfl)) ?_|refine QW (rr_neq (b := true) rfl rfl (decide_eq_true c6)) ?_|refine QW QL ?_|refine QW QA ?_|refine QW (rr_nilc rfl) ?_|refine QW QlT ?_|refine QW QlF ?_|refine QW QeT ?_|refine QW QeF ?_|refine QW QnT ?_|refine QW QnF ?_|refine QW QaA ?_)|refine TW_skip rfl rfl rfl rfl rfl rfl rfl ?_|refine TW_done ?_)
              repeat(first|refine QV QP ?_|refine QZ ?_|refine qcT rfl ?_|refine qcF rfl ?_|refine E_blockX ?_|refine E_blockO rfl ?_|refine qs rfl rfl rfl rfl rfl rfl ?_|((try refine qg rfl rfl rfl ?_);first|refine QV QP ?_|refine QV QL ?_|refine QV QA ?_|refine QV (rr_nilc rfl) ?_|refine QV QlT ?_|refine QV QlF ?_|refine QV QeT ?_|refine QV QeF ?_|refine QV QnT ?_|refine QV QnF ?_|refine QV QaA ?_))
              refine E_pick [0, 1, 2, 3, 4, 5, 6] (by decide) rfl ?_
              exact E_round (i + 1, .slice (some ⟨gz2, 0, none⟩) ou.length cv2, cn2, b3) ⟨by show i + 1 ≤ g.prods.length; omega, by show PutOk cn2 (expProd g.prods T yn bits out (i + 1)) b3; rw [hnx2]; exact p2, by show b3 ≤ b + 62 * (i + 1); omega⟩ (by show g.prods.length - (i + 1) < g.prods.length - i; omega) (by repeat' (first | exact True.intro | refine And.intro rfl ?_)) (by dsimp only; rw [hnx2]; rfl)
          · obtain rfl : i = g.prods.length := by omega
            repeat(first|refine QV QP ?_|refine QZ ?_|refine qcT rfl ?_|refine qcF rfl ?_|refine E_blockX ?_|refine E_blockO rfl ?_|refine qs rfl rfl rfl rfl rfl rfl ?_|((try refine qg rfl rfl rfl ?_);first|refine QV QP ?_|refine QV QL ?_|refine QV QA ?_|refine QV (rr_nilc rfl) ?_|refine QV QlT ?_|refine QV QlF ?_|refine QV QeT ?_|refine QV QeF ?_|refine QV QnT ?_|refine QV QnF ?_|refine QV QaA ?_))
            refine E_pick [0, 1, 2, 3, 4, 5] (by decide) rfl ?_
            exact E_round (n + 1, expProd g.prods T yn bits out g.prods.length, f2, c2', v2, cn2, b3) ⟨hwk, hwx, hf2, by show c2' ≤ c + (n + 1); omega, p2, by show b3 ≤ 40000 + 2480 * (n + 1); omega⟩ (by show 12000 - (n + 1) < 12000 - n; omega) (by repeat' (first | exact True.intro | refine And.intro rfl ?_)) rfl
        · repeat(first|refine QV QP ?_|refine QZ ?_|refine qcT rfl ?_|refine qcF rfl ?_|refine E_blockX ?_|refine E_blockO rfl ?_|refine qs rfl rfl rfl rfl rfl rfl ?_|((try refine qg rfl rfl rfl ?_);first|refine QV QP ?_|refine QV (rr_load1 (v := .slice (some ⟨gz, 0, none⟩) out.length cv) TyC.ty rfl (at_blk (i := 4) rfl rfl)) ?_|refine QV (rr_idxc Und.eq TyC.ty rfl rfl c2) ?_|refine QV (rr_idxc Und.eq TyC.ty rfl rfl hlt) ?_|refine QV (rr_load1 (v := .int .i64 (dn : Int)) TyC.ty rfl (hat _ 5 rfl 1 _ rfl)) ?_|refine QV (rr_eql (b := false) rfl rfl (decide_eq_false (by omega))) ?_|refine QV (rr_load1 (v := .int .i64 yk) TyC.ty rfl (hba _ 6 rfl 0 _ rfl)) ?_|refine QV (rr_neq (b := true) rfl rfl (decide_eq_true c4)) ?_|refine QV QL ?_|refine QV QA ?_|refine QV (rr_nilc rfl) ?_|refine QV QlT ?_|refine QV QlF ?_|refine QV QeT ?_|refine QV QeF ?_|refine QV QnT ?_|refine QV QnF ?_|refine QV QaA ?_))
          have hexp : expI g.prods T (lkG g) ((k : Int), (dn : Int), (ln : Int)) out = out := by
            unfold expI
            rw [hnx]
            dsimp only
            rw [if_neg c4]
          rw [hexp] at hwk hwx
          refine E_pick [0, 1, 2, 3, 4, 5] (by decide) rfl ?_
          exact E_round (n + 1, out, f', c', .slice (some ⟨gz, 0, none⟩) out.length cv, cn', b) ⟨hwk, hwx, i3, by show c' ≤ c + (n + 1); omega, i5, by show b ≤ 40000 + 2480 * (n + 1); omega⟩ (by show 12000 - (n + 1) < 12000 - n; omega) (by repeat' (first | exact True.intro | refine And.intro rfl ?_)) rfl
    · have hn : n = out.length := by have := i1.le; omega
      have hR : workI g.prods T (lkG g) 12000 0 (firsts [] l0) = out := by
        rw [← i2, show 12000 - n = (11999 - n) + 1 by omega, workI, if_neg c2]
      have hcI : closedI g.prods T (lkG g) l0 = sortI out := by unfold closedI; rw [hR]
      repeat(first|refine QV QP ?_|refine QZ ?_|refine qcT rfl ?_|refine qcF rfl ?_|refine E_blockX ?_|refine E_blockO rfl ?_|refine qs rfl rfl rfl rfl rfl rfl ?_|((try refine qg rfl rfl rfl ?_);first|refine QV QP ?_|refine QV (rr_load1 (v := .slice bv out.length cv) TyC.ty rfl (at_blk (i := 4) rfl rfl)) ?_|refine QV QL ?_|refine QV QA ?_|refine QV (rr_nilc rfl) ?_|refine QV QlT ?_|refine QV QlF ?_|refine QV QeT ?_|refine QV QeF ?_|refine QV QnT ?_|refine QV QnF ?_|refine QV QaA ?_))
      refine TL_callB [5] [0, 1, 2, 3, 4] (by decide) rfl rfl (he2 EntersC.en rfl rfl rfl) (fun w hm hb => itSortG order_k (.slice bv out.length cv) out w _ hb (by omega)) rfl rfl rfl ?_
      intro _ _
      conv=>arg 8;simp only[zA,zB,zC,zD,zE,zF,zG,zH,zI,rowS,ret,id_eq]
      repeat(first|refine QV QP ?_|refine QZ ?_|refine qcT rfl ?_|refine qcF rfl ?_|refine E_blockX ?_|refine E_blockO rfl ?_|refine qs rfl rfl rfl rfl rfl rfl ?_|((try refine qg rfl rfl rfl ?_);first|refine QV QP ?_|refine QV (rr_load1 (v := .slice bv out.length cv) TyC.ty rfl (at_blk (i := 4) rfl rfl)) ?_|refine QV QL ?_|refine QV QA ?_|refine QV (rr_nilc rfl) ?_|refine QV QlT ?_|refine QV QlF ?_|refine QV QeT ?_|refine QV QeF ?_|refine QV QnT ?_|refine QV QnF ?_|refine QV QaA ?_))
      exact E_ret1 rfl rfl fun w hm => hm.meetsB (S := itClS g T l0 bp cp go gm c) (f', c', .slice bv out.length cv) ⟨i3, by show c' ≤ c + 12000; omega⟩ [0, 1, 5] (by decide) (by unfold itClS opL; dsimp only; rw [hcI, sort_len]; rfl)
end Go.Proofs.Ytlojfbnimmdehaa.eng

/- ItG -/
namespace Go.Proofs.Ytlojfbnimmdehaa.eng
open Go.RowKit kit mix gramL treeL factsL itemL smallL
/-- an own slice, handed to a call that can't turn it -/
theorem SlB.row {W : Base} {L Lx : List Own} {w : World} (hm : Mem W L w) {i n size : Nat} {e : TypeId} {v : Value} {xs : List Value} (hi : L[i]? = some (rowO e size v n xs)) (is : List Nat) (hL : Lx = is.filterMap fun i => L[i]?) (hni : i ∉ is) : SlB (Base.on w Lx) v n xs := by
  have hh : (rowO e size v n xs).holds w := hm.get hi
  obtain ⟨base, cap, rfl, h1, h2, h3⟩ := Sl.of_own hh
  refine ⟨base, cap, rfl, h1, h2, fun hn => ?_⟩
  obtain ⟨b, off, rfl, hr⟩ := h3 hn
  have hf : (rowO e size (.slice (some ⟨b, off, none⟩) n cap) n xs).foot b := by
    rcases (show w.ownsRow 0 e size _ n xs from hh).2 with ⟨hv, _⟩ | ⟨g, cp, cur, hv, _⟩
    · cases hv
    · cases hv; exact .inl rfl
  refine ⟨b, off, rfl, ⟨(rowO e size _ n xs).lt w hh b hf, ?_⟩, hr⟩
  rintro ⟨o, ho, hfo⟩
  subst hL
  obtain ⟨j, hj, hoj⟩ := List.mem_filterMap.1 ho
  exact hm.owns.apart i j _ _ (fun h => hni (h ▸ hj)) hi hoj b hf hfo
theorem SlB.at {B : Base} {L : List Own} {α : Type} {f : α → List Value} {c : Nat} (hc : ∀ a, (f a).length = c) {base : Option Addr} {cap n : Nat} {l : List α} (h : SlB B (.slice base n cap) n (l.flatMap f)) (hn : 0 < n) : ∃ b off, base = some ⟨b, off, none⟩ ∧ ∀ (k : Nat) (hk : k < l.length) (j : Nat) (u : Value), (f l[k])[j]? = some u → At B L ⟨b, off + k * c + j, none⟩ u := by
  obtain ⟨base', cap', h0, h1, h2, h3⟩ := h
  cases h0
  obtain ⟨b, off, rfl, ho, hr⟩ := h3 hn
  exact ⟨b, off, rfl, fun k hk j u hj => at_elL (W := B) (L := L) hc (off := off) (fun q y hq => at_oldB ho hr q y hq) hk j u hj⟩
theorem over_take {l : List gramL.Prod} {s : List itemL.Item} {x : Sym} {k : Nat} (h : k < s.length) : overI l (s.take (k + 1)) x = if nextS l s[k] = some x then overI l (s.take k) x ++ [advI s[k]] else overI l (s.take k) x := by
  unfold overI
  rw [List.take_succ_eq_append_getElem h, List.filter_append, List.map_append]
  by_cases c : nextS l s[k] = some x
  · rw [if_pos c, List.filter_cons_of_pos (by simpa using c)]; rfl
  · rw [if_neg c, List.filter_cons_of_neg (by simpa using c)]; simp
theorem over_len {l : List gramL.Prod} {s : List itemL.Item} {x : Sym} : (overI l s x).length ≤ s.length := by
  unfold overI; rw [List.length_map]; exact List.length_filter_le _ _
set_option maxHeartbeats 8000000 in
theorem itStep_calls (g : Gram) (hg : checkG g = 0) (bp : Option Addr) (cp : Nat) (vb : Nat → Value) (w0 : World) (hG : GraR (fun q => q < w0.heap.size) w0 (graV g.terms g.nons (.slice bp g.prods.length cp)) g) (hvb : BodR (fun q => q < w0.heap.size) w0 vb g.prods) (hrp : 0 < g.prods.length → ∃ b off, bp = some ⟨b, off, none⟩ ∧ ∀ i, i < g.prods.length → Rd w0 b (off + i * 2) [.int .i64 (prodAt g.prods (i : Int)).1, vb i])
    (go gm c : Nat) (f : RK → Option Value) (T : Nat) (hTt : g.terms = (T : Int)) (hT : T ≤ 30) (s : List itemL.Item) (x : Sym) (vl : Value) (h0 : ∀ it ∈ s, RightI g.prods T it) (hl0 : s.length ≤ 20000) (hc : CacheOk (lkG g) f) (hcc : c ≤ 900000000000000) (w : World) (B : Base) (ho : Old w0 B) (hvl : SlB B vl s.length (s.flatMap itC))
    (hm : Mem B (opL g bp cp go gm f c) w) :
    Calls Try.prog 80 #[.pointer (some ⟨go, 0, none⟩), vl, .agg (symC x).toArray] w (MeetsB (itClS g T (overI g.prods s x) bp cp go gm c) B) := by
  have hcl := fun v h2 h3 w' B' ho' hs' hm' => itClosed_calls g hg bp cp vb w0 hG hvb hrp go gm c f T hTt hT (overI g.prods s x) v h2 h3 hc hcc w' B' ho' hs' hm'
  have hol := over_len (l := g.prods) (s := s) (x := x)
  have hor := over_right (l := g.prods) (T := T) (x := x) h0
  obtain ⟨bl, cl, rfl, hc1, hc2, hrl⟩ := id hvl
  clear hrl
  unfold maxLen at hc2
  unfold opL at hm
  refine enterB hm (args := [.pointer (some ⟨go, 0, none⟩), .slice bl s.length cl, .agg (symC x).toArray]) (n := 50) Try.func80 rfl rfl rfl ?_
  refine T_seq (T_region (TL_box rfl rfl rfl fun g5 => ?_))
  conv=>arg 8;simp only[zA,zB,zC,zD,zE,zF,zG,zH,zI,rowS,ret,id_eq]
  repeat(first|refine QV QP ?_|refine QZ ?_|refine qcT rfl ?_|refine qcF rfl ?_|refine E_blockX ?_|refine E_blockO rfl ?_|refine qs rfl rfl rfl rfl rfl rfl ?_|((try refine qg rfl rfl rfl ?_);first|refine QV QP ?_|refine QV QL ?_|refine QV QA ?_|refine QV (rr_nilc rfl) ?_|refine QV QlT ?_|refine QV QlF ?_|refine QV QaA ?_))
  refine T_nil 60 3 ?_
  conv => arg 7; simp only [zA, zB, zC, zD, zE, zF, zG, zH, zI, rowS, ret, id_eq]
  refine T_loop (ι := Nat × Value) (fun (k, _) => k ≤ s.length) (fun (k, v) => [(0, .pointer (some ⟨go, 0, none⟩)), (5, .pointer (some ⟨g5, 0, none⟩)), (7, v), (11, .slice bl s.length cl), (12, .int .i64 s.length), (13, .int .i64 (k : Int))])
    (fun (k, v) => [blkO go (opC g.terms g.nons (.slice bp g.prods.length cp) gm).toArray 164, mapO restK gm f c, blkO g5 (symC x).toArray 71, rowO 60 3 v (overI g.prods (s.take k) x).length ((overI g.prods (s.take k) x).flatMap itC)]) (fun (k, _) => s.length - k) (0, .slice none 0 0) (Nat.zero_le _) (by repeat' (first | exact True.intro | refine And.intro rfl ?_)) rfl ?_
  rintro ⟨k, v⟩ i1
  dsimp only at i1 ⊢
  by_cases c1 : k < s.length
  · obtain ⟨b, off, rfl, hat⟩ := hvl.at (L := []) itC_len (by omega)
    have hatA : ∀ (L : List Own) (j : Nat) (u : Value), (itC s[k])[j]? = some u → At B L ⟨b, off + k * 3 + j, none⟩ u := fun L => by
      obtain ⟨b', off', he, h⟩ := hvl.at (L := L) itC_len (by omega)
      cases he
      exact h k c1
    clear hat
    have hxr := h0 s[k] (List.getElem_mem c1)
    have hnx := over_take (l := g.prods) (x := x) c1
    have hln : (overI g.prods (s.take k) x).length ≤ 20000 := Nat.le_trans over_len (by rw [List.length_take]; omega)
    generalize overI g.prods (s.take k) x = ov at *
    generalize hnx2 : overI g.prods (s.take (k + 1)) x = ov' at *
    clear hcl hor hol
    generalize s[k] = it at *
    obtain ⟨p, d, lo⟩ := it
    have hxr2 := hxr
    obtain ⟨r1, r2, r3, r4, r5, r6⟩ := hxr2
    dsimp only at r1 r2 r3 r4 r5 r6
    obtain ⟨kn, rfl⟩ := Int.eq_ofNat_of_zero_le r1
    obtain ⟨dn, rfl⟩ := Int.eq_ofNat_of_zero_le r3
    obtain ⟨ln, rfl⟩ := Int.eq_ofNat_of_zero_le r5
    have hk : kn ≤ g.prods.length := by omega
    have hbd := fun w' (hm' : Mem B [] w') => itBody_calls g.terms g.nons bp cp g.prods vb w0 w' B kn hk ho hm' (fun i hi => let ⟨b, c, h, _⟩ := hvb i hi; ⟨b, _, c, h⟩) hrp
    have hwl : ∀ q ∈ g.prods, q.2.length ≤ 8 := fun q hq => ((checkG_ok hg).2.2.2.2.2 q hq).1
    have hb8 := body_len (l := g.prods) (p := (kn : Int)) hwl
    repeat(first|refine QV QP ?_|refine QZ ?_|refine qcT rfl ?_|refine qcF rfl ?_|refine E_blockX ?_|refine E_blockO rfl ?_|refine qs rfl rfl rfl rfl rfl rfl ?_|((try refine qg rfl rfl rfl ?_);first|refine QV QP ?_|refine QV (rr_idxc Und.eq TyC.ty rfl rfl c1) ?_|refine QV (rr_loadN (cs := itC ((kn : Int), (dn : Int), (ln : Int))) TyC.ty rfl rfl (hatA _)) ?_|refine QV QL ?_|refine QV QA ?_|refine QV (rr_nilc rfl) ?_|refine QV QlT ?_|refine QV QlF ?_|refine QV QaA ?_))
    refine TL_new rfl fun g9 => ?_
    conv=>arg 8;simp only[zA,zB,zC,zD,zE,zF,zG,zH,zI,rowS,ret,id_eq]
    refine TL_storeB (i := 4) (cs' := (itC ((kn : Int), (dn : Int), (ln : Int))).toArray) rfl rfl rfl rfl rfl rfl ?_
    conv=>arg 8;simp only[zA,zB,zC,zD,zE,zF,zG,zH,zI,rowS,ret,id_eq]
    repeat(first|refine QV QP ?_|refine QZ ?_|refine qcT rfl ?_|refine qcF rfl ?_|refine E_blockX ?_|refine E_blockO rfl ?_|refine qs rfl rfl rfl rfl rfl rfl ?_|((try refine qg rfl rfl rfl ?_);first|refine QV QP ?_|refine QV QL ?_|refine QV QA ?_|refine QV (rr_nilc rfl) ?_|refine QV QlT ?_|refine QV QlF ?_|refine QV QaA ?_))
    refine T_ord ([blkO go (opC g.terms g.nons (.slice bp g.prods.length cp) gm).toArray 164, blkO g9 (itC ((kn : Int), (dn : Int), (ln : Int))).toArray 60]) (.calm 0 (.calm 1 (.calm 2 (.calm 3 (.calm 4 (.calm 5 (.one 6 (.calm 7 (.done))))))))) (sub_pick [0, 4] (by decide) rfl) (by kernel_rfl) (by kernel_rfl) (by intro c a d v w h; cases d <;> exact h) ?_
    repeat(first|((first|refine TW_plain rfl rfl ?_|refine TW_gmet rfl rfl rfl rfl ?_);first|refine QW QP ?_|refine QW (rr_nilc rfl) ?_|refine QW (rr_loadN TyC.ty rfl (cs := [.int .i64 g.terms, .int .i64 g.nons, .slice bp g.prods.length cp]) rfl (fun j v h => at_blk (i := 0) rfl (op_gram h))) ?_|refine QW (rr_load1 (v := .int .i64 (kn : Int)) TyC.ty rfl (at_blk (i := 1) rfl rfl)) ?_|refine QW QL ?_|refine QW QA ?_|refine QW (rr_nilc rfl) ?_|refine QW QlT ?_|refine QW QlF ?_|refine QW QaA ?_)|refine TW_skip rfl rfl rfl rfl rfl rfl rfl ?_|refine TW_done ?_)
    refine TW_one rfl ?_
    refine TL_call (he2 EntersC.en rfl rfl rfl) (fun w hm => hbd _ (hm.pick [] (by decide) rfl)) rfl rfl rfl ?_
    rintro xb hxb
    conv=>arg 8;simp only[zA,zB,zC,zD,zE,zF,zG,zH,zI,rowS,ret,id_eq, bodyS]
    conv => arg 7; simp only [bodyS]
    obtain ⟨bb, cc, hbv, hlc, -⟩ := body_slL (W := B) (i := 5) (L := [blkO go (opC g.terms g.nons (.slice bp g.prods.length cp) gm).toArray 164, mapO restK gm f c, blkO g5 (symC x).toArray 71, rowO 60 3 v ov.length (ov.flatMap itC), blkO g9 (itC ((kn : Int), (dn : Int), (ln : Int))).toArray 60, bodO xb]) ho hvb hk hxb rfl
    rw [hbv]
    refine TW_on (sub_pick [0, 4] (by decide) rfl) ?_
    repeat(first|((first|refine TW_plain rfl rfl ?_|refine TW_gmet rfl rfl rfl rfl ?_);first|refine QW QP ?_|refine QW QL ?_|refine QW QA ?_|refine QW (rr_nilc rfl) ?_|refine QW QlT ?_|refine QW QlF ?_|refine QW QaA ?_)|refine TW_skip rfl rfl rfl rfl rfl rfl rfl ?_|refine TW_done ?_)
    clear hbd
    by_cases c2 : dn < (bodyI g.prods (kn : Int)).length
    · obtain ⟨b2, o2, rfl, hba⟩ := body_at ho hvb hk hxb hbv c2
      have hns : nextS g.prods ((kn : Int), (dn : Int), (ln : Int)) = some (bodyI g.prods (kn : Int))[dn] := by
        unfold nextS
        dsimp only
        rw [Int.toNat_natCast, List.getElem?_eq_getElem c2]
      have heq := fun w => eq_sym (bodyI g.prods (kn : Int))[dn] x w
      generalize (bodyI g.prods (kn : Int))[dn] = y at *
      rw [hns] at hnx
      repeat(first|refine QV QP ?_|refine QZ ?_|refine qcT rfl ?_|refine qcF rfl ?_|refine E_blockX ?_|refine E_blockO rfl ?_|refine qs rfl rfl rfl rfl rfl rfl ?_|((try refine qg rfl rfl rfl ?_);first|refine QV QP ?_|refine QV QL ?_|refine QV QA ?_|refine QV (rr_nilc rfl) ?_|refine QV QlT ?_|refine QV QlF ?_|refine QV QaA ?_))
      refine T_ord ([blkO g5 (symC x).toArray 71, blkO g9 (itC ((kn : Int), (dn : Int), (ln : Int))).toArray 60, bodO xb]) (.calm 0 (.calm 1 (.calm 2 (.calm 3 (.calm 4 (.calm 5 (.calm 6 (.calm 7 (.calm 8 (.calm 9 (.calm 10 (.calm 11 (.calm 12 (.calm 13 (.done))))))))))))))) (sub_pick [2, 4, 5] (by decide) rfl) (by kernel_rfl) (by kernel_rfl) (by intro c a d v w h; cases d <;> exact h) ?_
      by_cases c3 : y = x
      · subst c3
        rw [if_pos rfl] at hnx
        rw [decide_eq_true rfl] at heq
        repeat(first|((first|refine TW_plain rfl rfl ?_|refine TW_gmet rfl rfl rfl rfl ?_);first|refine QW QP ?_|refine QW (rr_load1 (v := .int .i64 (dn : Int)) TyC.ty rfl (at_blk (i := 1) rfl rfl)) ?_|refine QW (rr_idxc Und.eq TyC.ty rfl rfl c2) ?_|refine QW (rr_loadN (cs := symC y) TyC.ty rfl rfl (hba _ 2 rfl)) ?_|refine QW (rr_loadB (i := 0) TyC.ty rfl rfl rfl) ?_|refine QW QL ?_|refine QW QA ?_|refine QW (rr_nilc rfl) ?_|refine QW QlT ?_|refine QW QlF ?_|refine QW QaA ?_|refine QW (rr_aggeq rfl rfl (by kernel_rfl) heq) ?_)|refine TW_skip rfl rfl rfl rfl rfl rfl rfl ?_|refine TW_done ?_)
        repeat(first|refine QV QP ?_|refine QZ ?_|refine qcT rfl ?_|refine qcF rfl ?_|refine E_blockX ?_|refine E_blockO rfl ?_|refine qs rfl rfl rfl rfl rfl rfl ?_|((try refine qg rfl rfl rfl ?_);first|refine QV QP ?_|refine QV (rr_load1 (v := .int .i64 (dn : Int)) TyC.ty rfl (at_blk (i := 4) rfl rfl)) ?_|refine QV QL ?_|refine QV QA ?_|refine QV (rr_nilc rfl) ?_|refine QV QlT ?_|refine QV QlF ?_|refine QV QaA ?_))
        refine TL_store1 (i := 4) rfl rfl rfl rfl rfl rfl ?_
        conv=>arg 8;simp only[zA,zB,zC,zD,zE,zF,zG,zH,zI,rowS,ret,id_eq]
        repeat(first|refine QV QP ?_|refine QZ ?_|refine qcT rfl ?_|refine qcF rfl ?_|refine E_blockX ?_|refine E_blockO rfl ?_|refine qs rfl rfl rfl rfl rfl rfl ?_|((try refine qg rfl rfl rfl ?_);first|refine QV QP ?_|refine QV (rr_loadB (i := 4) TyC.ty rfl rfl rfl) ?_|refine QV QL ?_|refine QV QA ?_|refine QV (rr_nilc rfl) ?_|refine QV QlT ?_|refine QV QlF ?_|refine QV QaA ?_))
        refine TL_pushN (i := 3) rfl rfl rfl rfl rfl rfl rfl (fun z h => by cases h; rfl) (by omega) (by omega) rfl fun z v' => ?_
        conv=>arg 8;simp only[zA,zB,zC,zD,zE,zF,zG,zH,zI,rowS,ret,id_eq]
        repeat(first|refine QV QP ?_|refine QZ ?_|refine qcT rfl ?_|refine qcF rfl ?_|refine E_blockX ?_|refine E_blockO rfl ?_|refine qs rfl rfl rfl rfl rfl rfl ?_|((try refine qg rfl rfl rfl ?_);first|refine QV QP ?_|refine QV QL ?_|refine QV QA ?_|refine QV (rr_nilc rfl) ?_|refine QV QlT ?_|refine QV QlF ?_|refine QV QaA ?_))
        refine E_pick [0, 1, 2, 3] (by decide) rfl ?_
        exact E_round (k + 1, v') (by show k + 1 ≤ s.length; omega) (by show s.length - (k + 1) < s.length - k; omega) (by repeat' (first | exact True.intro | refine And.intro rfl ?_)) (by dsimp only; rw [hnx2, hnx, List.length_append, List.flatMap_append]; rfl)
      · rw [if_neg (fun h => c3 (Option.some.inj h))] at hnx
        rw [decide_eq_false c3] at heq
        repeat(first|((first|refine TW_plain rfl rfl ?_|refine TW_gmet rfl rfl rfl rfl ?_);first|refine QW QP ?_|refine QW (rr_load1 (v := .int .i64 (dn : Int)) TyC.ty rfl (at_blk (i := 1) rfl rfl)) ?_|refine QW (rr_idxc Und.eq TyC.ty rfl rfl c2) ?_|refine QW (rr_loadN (cs := symC y) TyC.ty rfl rfl (hba _ 2 rfl)) ?_|refine QW (rr_loadB (i := 0) TyC.ty rfl rfl rfl) ?_|refine QW QL ?_|refine QW QA ?_|refine QW (rr_nilc rfl) ?_|refine QW QlT ?_|refine QW QlF ?_|refine QW QaA ?_|refine QW (rr_aggeq rfl rfl (by kernel_rfl) heq) ?_)|refine TW_skip rfl rfl rfl rfl rfl rfl rfl ?_|refine TW_done ?_)
        repeat(first|refine QV QP ?_|refine QZ ?_|refine qcT rfl ?_|refine qcF rfl ?_|refine E_blockX ?_|refine E_blockO rfl ?_|refine qs rfl rfl rfl rfl rfl rfl ?_|((try refine qg rfl rfl rfl ?_);first|refine QV QP ?_|refine QV QL ?_|refine QV QA ?_|refine QV (rr_nilc rfl) ?_|refine QV QlT ?_|refine QV QlF ?_|refine QV QaA ?_))
        refine E_pick [0, 1, 2, 3] (by decide) rfl ?_
        exact E_round (k + 1, v) (by show k + 1 ≤ s.length; omega) (by show s.length - (k + 1) < s.length - k; omega) (by repeat' (first | exact True.intro | refine And.intro rfl ?_)) (by dsimp only; rw [hnx2, hnx]; rfl)
    · have hns : nextS g.prods ((kn : Int), (dn : Int), (ln : Int)) = none := by
        unfold nextS
        dsimp only
        rw [Int.toNat_natCast, List.getElem?_eq_none (by omega)]
      rw [hns, if_neg (fun h => by cases h)] at hnx
      repeat(first|refine QV QP ?_|refine QZ ?_|refine qcT rfl ?_|refine qcF rfl ?_|refine E_blockX ?_|refine E_blockO rfl ?_|refine qs rfl rfl rfl rfl rfl rfl ?_|((try refine qg rfl rfl rfl ?_);first|refine QV QP ?_|refine QV QL ?_|refine QV QA ?_|refine QV (rr_nilc rfl) ?_|refine QV QlT ?_|refine QV QlF ?_|refine QV QaA ?_))
      refine T_ord ([blkO g5 (symC x).toArray 71, blkO g9 (itC ((kn : Int), (dn : Int), (ln : Int))).toArray 60, bodO xb]) (.calm 0 (.calm 1 (.calm 2 (.calm 3 (.calm 4 (.calm 5 (.calm 6 (.calm 7 (.calm 8 (.calm 9 (.calm 10 (.calm 11 (.calm 12 (.calm 13 (.done))))))))))))))) (sub_pick [2, 4, 5] (by decide) rfl) (by kernel_rfl) (by kernel_rfl) (by intro c a d v w h; cases d <;> exact h) ?_
      repeat(first|((first|refine TW_plain rfl rfl ?_|refine TW_gmet rfl rfl rfl rfl ?_);first|refine QW QP ?_|refine QW (rr_load1 (v := .int .i64 (dn : Int)) TyC.ty rfl (at_blk (i := 1) rfl rfl)) ?_|refine QW QL ?_|refine QW QA ?_|refine QW (rr_nilc rfl) ?_|refine QW QlT ?_|refine QW QlF ?_|refine QW QaA ?_)|refine TW_skip rfl rfl rfl rfl rfl rfl rfl ?_|refine TW_done ?_)
      repeat(first|refine QV QP ?_|refine QZ ?_|refine qcT rfl ?_|refine qcF rfl ?_|refine E_blockX ?_|refine E_blockO rfl ?_|refine qs rfl rfl rfl rfl rfl rfl ?_|((try refine qg rfl rfl rfl ?_);first|refine QV QP ?_|refine QV QL ?_|refine QV QA ?_|refine QV (rr_nilc rfl) ?_|refine QV QlT ?_|refine QV QlF ?_|refine QV QaA ?_))
      refine E_pick [0, 1, 2, 3] (by decide) rfl ?_
      exact E_round (k + 1, v) (by show k + 1 ≤ s.length; omega) (by show s.length - (k + 1) < s.length - k; omega) (by repeat' (first | exact True.intro | refine And.intro rfl ?_)) (by dsimp only; rw [hnx2, hnx]; rfl)
  · obtain rfl : k = s.length := by omega
    rw [List.take_length]
    repeat(first|refine QV QP ?_|refine QZ ?_|refine qcT rfl ?_|refine qcF rfl ?_|refine E_blockX ?_|refine E_blockO rfl ?_|refine qs rfl rfl rfl rfl rfl rfl ?_|((try refine qg rfl rfl rfl ?_);first|refine QV QP ?_|refine QV QL ?_|refine QV QA ?_|refine QV (rr_nilc rfl) ?_|refine QV QlT ?_|refine QV QlF ?_|refine QV QaA ?_))
    refine TL_callB [0, 1] [2, 3] (by decide) rfl rfl (he2 EntersC.en rfl rfl rfl) (fun w hm hb => hcl v hor (by omega) w _ (ho.on hm fun o h => pickMem h) (SlB.row hm (i := 3) rfl [0, 1] rfl (by decide)) hb) rfl rfl rfl ?_
    rintro ⟨f2, c2, v2⟩ ⟨hf2, hc2'⟩
    conv=>arg 8;simp only[zA,zB,zC,zD,zE,zF,zG,zH,zI,rowS,ret,id_eq, itClS, opL]
    conv => arg 7; simp only [itClS]
    repeat(first|refine QV QP ?_|refine QZ ?_|refine qcT rfl ?_|refine qcF rfl ?_|refine E_blockX ?_|refine E_blockO rfl ?_|refine qs rfl rfl rfl rfl rfl rfl ?_|((try refine qg rfl rfl rfl ?_);first|refine QV QP ?_|refine QV QL ?_|refine QV QA ?_|refine QV (rr_nilc rfl) ?_|refine QV QlT ?_|refine QV QlF ?_|refine QV QaA ?_))
    exact E_ret1 rfl rfl fun w hm => hm.meetsB (S := itClS g T (overI g.prods s x) bp cp go gm c) (f2, c2, v2) ⟨hf2, hc2'⟩ [2, 3, 4] (by decide) rfl
end Go.Proofs.Ytlojfbnimmdehaa.eng

/- ItA -/
namespace Go.Proofs.Ytlojfbnimmdehaa.eng
open Go.RowKit kit mix gramL treeL factsL itemL smallL
def outA (g : Gram) : List (List Int) × List (List itemL.Item) × Int := if checkG g ≠ 0 then ([], [], checkG g) else match allI g.prods g.terms.toNat g.nons.toNat (lkG g) with
  | some (Nx, S) => (Nx, S, 0)
  | none => ([], [], 8)
def allS (g : Gram) : Spec (Value × Value × List Value × (Nat → Prop) × List Value × (Nat → Prop)) := ⟨fun _ => True, fun x => .tuple #[.agg #[x.1, x.2.1], .int .i64 (outA g).2.2], fun x => [rowO 51 1 x.1 (outA g).2.1.length x.2.2.1, elsO (sliceS itS) x.2.2.2.1 (x.2.2.1.map fun v => [v]) (outA g).2.1, rowO 25 1 x.2.1 (outA g).1.length x.2.2.2.2.1, elsO (sliceS intS) x.2.2.2.2.2 (x.2.2.2.2.1.map fun v => [v]) (outA g).1]⟩
theorem build_auto0 (w : World) : (Instr.build 103 (#[] : Array (Nat × Value))).run Try.prog w = .ok (.agg #[.slice none 0 0, .slice none 0 0]) w := by kernel_rfl
theorem small_right {l : List gramL.Prod} {T : Nat} {s : List itemL.Item} (hw : ∀ q ∈ l, q.2.length ≤ 8) (hl : l.length ≤ 40) (hT : T ≤ 30) (h : ∀ it ∈ s, RightI l T it) : SmallIt s := fun it hit => by
  obtain ⟨a1, a2, a3, a4, a5, a6⟩ := h it hit
  have := body_len (l := l) (p := it.1) hw
  omega
/-- a list among owned ones, handed to a call that can't turn it -/
theorem SlB.els {W : Base} {L Lx : List Own} {w : World} (hm : Mem W L w) {i n : Nat} {F : Nat → Prop} {vss : List Value} {S : List (List itemL.Item)} (hi : L[i]? = some (elsO (sliceS itS) F (vss.map fun v => [v]) S)) (is : List Nat) (hL : Lx = is.filterMap fun i => L[i]?) (hni : i ∉ is) {s : List itemL.Item} (hs : S[n]? = some s) {v : Value} (hv : vss[n]? = some v) : SlB (Base.on w Lx) v s.length (s.flatMap itC) := by
  obtain ⟨hn, rfl⟩ := List.getElem?_eq_some_iff.1 hs
  obtain ⟨⟨h1, h2⟩, h3⟩ := hm.get hi
  have hnv : n < vss.length := (List.getElem?_eq_some_iff.1 hv).1
  obtain ⟨v', e, hs⟩ := h2 n hn (by rw [List.length_map]; exact hnv)
  rw [List.getElem_map] at e
  obtain rfl : v = v' := by
    have := (List.getElem?_eq_some_iff.1 hv).2
    rw [this] at e
    exact (List.cons.inj e).1
  obtain ⟨base, cap, rfl, a1, a2, a3⟩ := hs
  refine ⟨base, cap, rfl, a1, a2, fun h0 => ?_⟩
  obtain ⟨b, off, rfl, hF, _⟩ := a3 h0
  have hfl := SlF.flat (f := itC) (c := 3) (hc := fun _ => rfl) (p := fun _ => True) (F := F) (by decide) (⟨some ⟨b, off, none⟩, cap, rfl, a1, a2, a3⟩ : SlF itS F w _ S[n])
  obtain ⟨base', cap', e', _, _, q⟩ := hfl
  obtain ⟨b', off', e2, hr⟩ := q h0
  cases e'
  cases e2
  refine ⟨b, off, rfl, ⟨h3 b hF, ?_⟩, hr⟩
  rintro ⟨o, ho, hfo⟩
  subst hL
  obtain ⟨j, hj, hoj⟩ := List.mem_filterMap.1 ho
  exact hm.owns.apart i j _ _ (fun h => hni (h ▸ hj)) hi hoj b (.inr hF) hfo
theorem step_cnt {a b c k : Nat} (h1 : a ≤ b + 12000) (h2 : b ≤ c + 12000 * k) : a ≤ c + 12000 * (k + 1) := by rw [Nat.mul_succ, ← Nat.add_assoc]; exact Nat.le_trans h1 (Nat.add_le_add_right h2 _)
theorem flat_one : ∀ (l : List Value), (l.map fun v => [v]).flatten = l
  | [] => rfl
  | v :: l => by rw [List.map_cons, List.flatten_cons, flat_one l]; rfl
theorem ints_of_row {w : World} {v : Value} {l : List Int} (hp : ∀ x ∈ l, kit.okI64 x) (h : (rowO 3 1 v l.length (l.map (Value.int .i64))).holds w) : (sliceS intS).is (fun k => v.ownBlock = some k) w [v] l :=
  ⟨v, rfl, SlF.of_flat (by have := Sl.of_own h; rwa [show l.map (Value.int .i64) = l.flatMap (fun n => [Value.int .i64 n]) by rw [List.map_eq_flatMap]] at this) hp (fun _ h => h) (fun a n cp hv => by rw [hv]; rfl)⟩
set_option maxHeartbeats 8000000 in
theorem all_calls (v : Value) (g : Gram) (w : World) (hG : GraR (fun k => k < w.heap.size) w v g) :
    Calls Try.prog 43 #[v] w (Meets (allS g) w) := by
  have hG0 := hG
  have hck := fun w' (hg : Gr w w') => checkG_calls v g w' (hG.gr hg)
  obtain ⟨vp, rfl, hp, ht, hn⟩ := hG
  obtain ⟨vb, bp, cp, rfl, -, -, hvb, hrp⟩ := prods_vb hp
  have hbg := begunI_calls g.terms g.nons (.slice bp g.prods.length cp)
  have hb0 := build_auto0
  have hO : outA g = if checkG g ≠ 0 then ([], [], checkG g) else match allI g.prods g.terms.toNat g.nons.toNat (lkG g) with
    | some (Nx, S) => (Nx, S, 0)
    | none => ([], [], 8) := rfl
  unfold allS
  refine enter (args := [graV g.terms g.nons (.slice bp g.prods.length cp)]) (n := 81) Try.func43 rfl rfl rfl ?_
  refine T_seq (T_region (TL_box rfl rfl rfl fun g1 => ?_))
  conv=>arg 8;simp only[zA,zB,zC,zD,zE,zF,zG,zH,zI,rowS,ret,id_eq]
  repeat(first|refine QV QP ?_|refine QZ ?_|refine qcT rfl ?_|refine qcF rfl ?_|refine E_blockX ?_|refine E_blockO rfl ?_|refine QV QL ?_|refine QV QA ?_|refine QV QlT ?_|refine QV QlF ?_|refine QV QgT ?_|refine QV QgF ?_|refine QV QnT ?_|refine QV QnF ?_|refine QV QaA ?_)
  refine TL_new rfl fun g2 => ?_
  conv=>arg 8;simp only[zA,zB,zC,zD,zE,zF,zG,zH,zI,rowS,ret,id_eq]
  repeat(first|refine QV QP ?_|refine QZ ?_|refine qcT rfl ?_|refine qcF rfl ?_|refine E_blockX ?_|refine E_blockO rfl ?_|refine QV (rr_loadB (i := 0) TyC.ty rfl rfl rfl) ?_|refine QV QL ?_|refine QV QA ?_|refine QV QlT ?_|refine QV QlF ?_|refine QV QgT ?_|refine QV QgF ?_|refine QV QnT ?_|refine QV QnF ?_|refine QV QaA ?_)
  refine TL_call (he1 EntersC.en rfl rfl) (fun w hm => hck w hm.below) rfl rfl rfl ?_
  intro _ _
  conv=>arg 8;simp only[zA,zB,zC,zD,zE,zF,zG,zH,zI,rowS,ret,id_eq]
  by_cases c0 : checkG g = 0
  · rw [if_neg (by rw [c0]; simp)] at hO
    rw [c0]
    obtain ⟨hT1, hT2, hN1, hN2, hpl, hgb⟩ := checkG_ok c0
    have hwl : ∀ q ∈ g.prods, q.2.length ≤ 8 := fun q hq => (hgb q hq).1
    obtain ⟨T, hTt⟩ : ∃ T : Nat, g.terms = (T : Int) := ⟨g.terms.toNat, by omega⟩
    obtain ⟨N, hNn⟩ : ∃ N : Nat, g.nons = (N : Int) := ⟨g.nons.toNat, by omega⟩
    rw [show g.terms.toNat = T by omega, show g.nons.toNat = N by omega] at hO
    have hT : T ≤ 30 := by omega
    have hrp' : 0 < g.prods.length → ∃ b off, bp = some ⟨b, off, none⟩ ∧ ∀ i, i < g.prods.length → Rd w b (off + i * 2) [.int .i64 (prodAt g.prods (i : Int)).1, vb i] := fun h => let ⟨b, off, h1, _, h3⟩ := hrp h; ⟨b, off, h1, fun i hi => (h3 i hi).1⟩
    have hcl := fun go gm l0 vl h1 h2 w' B' ho' hs' hm' => itClosed_calls g c0 bp cp vb w hG0 hvb hrp' go gm 0 (fun _ => none) T hTt hT l0 vl h1 h2 (fun x v h => by cases h) (by omega) w' B' ho' hs' hm'
    have hst := fun go gm c f s x vl h1 h2 h3 h4 w' B' ho' hs' hm' => itStep_calls g c0 bp cp vb w hG0 hvb hrp' go gm c f T hTt hT s x vl h1 h2 h3 h4 w' B' ho' hs' hm'
    have hsy := symbols_calls T N (by omega) (by omega) (.slice bp g.prods.length cp)
    repeat(first|refine QV QP ?_|refine QZ ?_|refine qcT rfl ?_|refine qcF rfl ?_|refine E_blockX ?_|refine E_blockO rfl ?_|refine QV (rr_loadB (i := 0) TyC.ty rfl rfl rfl) ?_|refine QV QL ?_|refine QV QA ?_|refine QV QlT ?_|refine QV QlF ?_|refine QV QgT ?_|refine QV QgF ?_|refine QV QnT ?_|refine QV QnF ?_|refine QV QaA ?_)
    refine TL_call (he1 EntersC.en rfl rfl) (fun w hm => hbg w) rfl rfl rfl ?_
    rintro ⟨go, gm⟩ _
    conv=>arg 8;simp only[zA,zB,zC,zD,zE,zF,zG,zH,zI,rowS,ret,id_eq, begS]
    conv => arg 7; simp only [begS]
    repeat(first|refine QV QP ?_|refine QZ ?_|refine qcT rfl ?_|refine qcF rfl ?_|refine E_blockX ?_|refine E_blockO rfl ?_|refine QV QL ?_|refine QV QA ?_|refine QV QlT ?_|refine QV QlF ?_|refine QV QgT ?_|refine QV QgF ?_|refine QV QnT ?_|refine QV QnF ?_|refine QV QaA ?_)
    refine TL_mapNew (K := strK) rfl fun gq => ?_
    conv=>arg 8;simp only[zA,zB,zC,zD,zE,zF,zG,zH,zI,rowS,ret,id_eq]
    repeat(first|refine QV QP ?_|refine QZ ?_|refine qcT rfl ?_|refine qcF rfl ?_|refine E_blockX ?_|refine E_blockO rfl ?_|refine QV QL ?_|refine QV QA ?_|refine QV QlT ?_|refine QV QlF ?_|refine QV QgT ?_|refine QV QgF ?_|refine QV QnT ?_|refine QV QnF ?_|refine QV QaA ?_)
    refine TL_new rfl fun g6 => ?_
    conv=>arg 8;simp only[zA,zB,zC,zD,zE,zF,zG,zH,zI,rowS,ret,id_eq]
    refine TL_store1 (i := 5) rfl rfl rfl rfl rfl rfl ?_
    conv=>arg 8;simp only[zA,zB,zC,zD,zE,zF,zG,zH,zI,rowS,ret,id_eq]
    repeat(first|refine QV QP ?_|refine QZ ?_|refine qcT rfl ?_|refine qcF rfl ?_|refine E_blockX ?_|refine E_blockO rfl ?_|refine QV QL ?_|refine QV QA ?_|refine QV QlT ?_|refine QV QlF ?_|refine QV QgT ?_|refine QV QgF ?_|refine QV QnT ?_|refine QV QnF ?_|refine QV QaA ?_)
    refine TL_new rfl fun g7 => ?_
    conv=>arg 8;simp only[zA,zB,zC,zD,zE,zF,zG,zH,zI,rowS,ret,id_eq]
    repeat(first|refine QV QP ?_|refine QZ ?_|refine qcT rfl ?_|refine qcF rfl ?_|refine E_blockX ?_|refine E_blockO rfl ?_|refine QV (rr_func rfl rfl) ?_|refine QV (rr_load1 (v := .slice bp g.prods.length cp) TyC.ty rfl (at_blk (i := 0) rfl rfl)) ?_|refine QV (rr_load1 (v := .int .i64 g.terms) TyC.ty rfl (at_blk (i := 0) rfl rfl)) ?_|refine QV (rr_build rfl (build_it2 _ _)) ?_|refine QV QL ?_|refine QV QA ?_|refine QV QlT ?_|refine QV QlF ?_|refine QV QgT ?_|refine QV QgF ?_|refine QV QnT ?_|refine QV QnF ?_|refine QV QaA ?_)
    refine TL_one (cs := (itC ((g.prods.length : Int), 0, g.terms)).toArray) rfl rfl rfl rfl rfl fun g33 => ?_
    conv=>arg 8;simp only[zA,zB,zC,zD,zE,zF,zG,zH,zI,rowS,ret,id_eq]
    refine TL_toRow (i := 7) (m := 1) 3 rfl rfl (by decide) ?_
    conv=>arg 8;simp only[zA,zB,zC,zD,zE,zF,zG,zH,zI,rowS,ret,id_eq]
    have hsr : ∀ x ∈ [(((g.prods.length : Int), 0, g.terms) : itemL.Item)], RightI g.prods T x := by rw [hTt]; exact start_right hpl hT
    repeat(first|refine QV QP ?_|refine QZ ?_|refine qcT rfl ?_|refine qcF rfl ?_|refine E_blockX ?_|refine E_blockO rfl ?_|refine QV QL ?_|refine QV QA ?_|refine QV QlT ?_|refine QV QlF ?_|refine QV QgT ?_|refine QV QgF ?_|refine QV QnT ?_|refine QV QnF ?_|refine QV QaA ?_)
    refine TL_callB [3, 2] [0, 1, 4, 5, 6] (by decide) rfl rfl (he2 EntersC.en rfl rfl rfl) (fun w' hm hb => hcl go gm [((g.prods.length : Int), 0, g.terms)] _ hsr (by simp) w' _ ((Old.self w).on hm fun o h => pickMem h) (SlB.row hm (i := 7) rfl [3, 2] rfl (by decide)) hb) rfl rfl rfl ?_
    rintro ⟨f2, c2, v2⟩ ⟨hf2, hc2⟩
    conv=>arg 8;simp only[zA,zB,zC,zD,zE,zF,zG,zH,zI,rowS,ret,id_eq, itClS, opL]
    conv => arg 7; simp only [itClS]
    have hstart : closedI g.prods T (lkG g) [((g.prods.length : Int), 0, g.terms)] = startI g.prods T (lkG g) := by rw [hTt]; rfl
    rw [hstart]
    have hs0r : ∀ it ∈ startI g.prods T (lkG g), RightI g.prods T it := closed_right hwl hpl hT (start_right hpl hT)
    have hs0s := closed_shut (lk := lkG g) hwl hpl hT (l0 := [((g.prods.length : Int), 0, (T : Int))]) (start_right hpl hT)
    have hs0l : (startI g.prods T (lkG g)).length ≤ 11439 := closed_len hwl hpl hT (start_right hpl hT)
    dsimp only at hf2 hc2
    refine TL_nilrow 51 1 ?_
    refine TL_extra (elsO (sliceS itS) (fun _ => False) [] []) (fun k hk => hk.elim (fun h => by cases h) id) (fun w => els_nil) ?_
    conv=>arg 8;simp only[zA,zB,zC,zD,zE,zF,zG,zH,zI,rowS,ret,id_eq]
    have hsm := small_right hwl hpl hT hs0r
    have hs1 : stateI [] (startI g.prods T (lkG g)) = (0, [startI g.prods T (lkG g)]) := if_neg (by simp)
    repeat(first|refine QV QP ?_|refine QZ ?_|refine qcT rfl ?_|refine qcF rfl ?_|refine E_blockX ?_|refine E_blockO rfl ?_|refine QV QL ?_|refine QV QA ?_|refine QV QlT ?_|refine QV QlF ?_|refine QV QgT ?_|refine QV QgF ?_|refine QV QnT ?_|refine QV QnF ?_|refine QV QaA ?_)
    refine TL_callB [3, 2, 4, 8, 9, 7] [0, 1, 5, 6] (by decide) rfl rfl (he1c EntersC.en rfl rfl) (fun w' hm hb => state_calls g6 gq g7 (.slice none 0 0) (.slice none 0 0) [] (fun _ => False) [] v2 (startI g.prods T (lkG g)) (fun t h => by cases h) hsm (by simp) (by omega) w' _ hb) rfl rfl rfl ?_
    rintro ⟨vS, vss, F⟩ _
    conv=>arg 8;simp only[zA,zB,zC,zD,zE,zF,zG,zH,zI,rowS,ret,id_eq, stL]
    rw [hs1]
    dsimp only
    refine TL_nilrow 25 1 ?_
    refine TL_extra (elsO (sliceS intS) (fun _ => False) [] []) (fun k hk => hk.elim (fun h => by cases h) id) (fun w => els_nil) ?_
    conv=>arg 8;simp only[zA,zB,zC,zD,zE,zF,zG,zH,zI,rowS,ret,id_eq]
    repeat(first|refine QV QP ?_|refine QZ ?_|refine qcT rfl ?_|refine qcF rfl ?_|refine E_blockX ?_|refine E_blockO rfl ?_|refine QV QL ?_|refine QV QA ?_|refine QV QlT ?_|refine QV QlF ?_|refine QV QgT ?_|refine QV QgF ?_|refine QV QnT ?_|refine QV QnF ?_|refine QV QaA ?_)
    refine T_loop (ι := Nat × List (List itemL.Item) × List (List Int) × (RK → Option Value) × Nat × Value × Value × List Value × (Nat → Prop) × List Value × (Nat → Prop))
      (fun (n, S, Nx, f, c, _, _, _, _, _, _) => n ≤ S.length ∧ Nx.length = n ∧ SsOk g.prods T (lkG g) S ∧ S.length ≤ 200 ∧ allTo g.prods T N (lkG g) (202 - n) n Nx S = allI g.prods T N (lkG g) ∧ CacheOk (lkG g) f ∧ c ≤ 12000 + 1200000 * n ∧ ∀ t ∈ S, t.length ≤ 11439)
      (fun (n, _, _, _, _, _, _, _, _, _, _) => [(1, .pointer (some ⟨g1, 0, none⟩)), (2, .pointer (some ⟨g2, 0, none⟩)), (5, .pointer (some ⟨go, 0, none⟩)), (7, .pointer (some ⟨g7, 0, none⟩)), (8, .func (.func 77) #[] #[.pointer (some ⟨g6, 0, none⟩), .pointer (some ⟨g7, 0, none⟩)]), (9, .int .i64 (n : Int))])
      (fun (_, S, Nx, f, c, vS, vN, vss, F, vns, G) => [blkO g1 (graV g.terms g.nons (.slice bp g.prods.length cp)).cells 24, blkO g2 #[.slice none 0 0, .slice none 0 0] 103, blkO go (opC g.terms g.nons (.slice bp g.prods.length cp) gm).toArray 164, mapO restK gm f c, blkO g6 #[.map (some gq)] 155, mapO strK gq (mapAt (S.map nameI)) S.length, blkO g7 #[vS, vN] 103, rowO 51 1 vS S.length vss, elsO (sliceS itS) F (vss.map fun v => [v]) S, rowO 25 1 vN Nx.length vns, elsO (sliceS intS) G (vns.map fun v => [v]) Nx]) (fun (n, _, _, _, _, _, _, _, _, _, _) => 202 - n)
      (0, [startI g.prods T (lkG g)], [], f2, c2, vS, .slice none 0 0, vss, F, [], fun _ => False) ⟨Nat.zero_le _, rfl, ⟨by simp, fun s hs => by rw [List.mem_singleton.1 hs]; exact hs0r, fun s hs => by rw [List.mem_singleton.1 hs]; exact hs0s⟩, by simp, rfl, hf2, by omega, fun t ht => by rw [List.mem_singleton.1 ht]; exact hs0l⟩ (by repeat' (first | exact True.intro | refine And.intro rfl ?_)) rfl ?_
    clear hcl hs0r hs0s hs0l hsm hs1 hf2 hc2 hsr hstart hbg hck
    rintro ⟨n, S, Nx, f, c, vS, vN, vss, F, vns, G⟩ ⟨i1, i2, i3, i4, i5, i6, i7, i8⟩
    dsimp only at i1 i2 i3 i4 i5 i6 i7 i8 ⊢
    refine T_know (i := 7) rfl row_slm fun hrow => ?_
    obtain ⟨aS, cS, rfl, -, haS⟩ := hrow
    by_cases c1 : n < S.length
    · rw [show 202 - n = (201 - n) + 1 by omega, allTo, if_pos c1] at i5
      have hgd : S.getD n [] = S[n] := by rw [List.getD_eq_getElem?_getD, List.getElem?_eq_getElem c1]; rfl
      rw [hgd] at i5
      have hsr := i3.right S[n] (List.getElem_mem c1)
      have hsn : S[n]? = some S[n] := List.getElem?_eq_getElem c1
      generalize hs0 : S[n] = s0 at *
      have hyl : (symsI T N).length = T + N := syms_len T N
      rw [← hTt, ← hNn] at hsy
      generalize symsI T N = ys at *
      repeat(first|refine QV QP ?_|refine QZ ?_|refine qcT rfl ?_|refine qcF rfl ?_|refine E_blockX ?_|refine E_blockO rfl ?_|refine QV (rr_load1 (v := .slice aS S.length cS) TyC.ty rfl (at_blk (i := 6) rfl rfl)) ?_|refine QV (rr_loadB (i := 0) TyC.ty rfl rfl rfl) ?_|refine QV QL ?_|refine QV QA ?_|refine QV QlT ?_|refine QV QlF ?_|refine QV QgT ?_|refine QV QgF ?_|refine QV QnT ?_|refine QV QnF ?_|refine QV QaA ?_)
      refine TL_call (he1 EntersC.en rfl rfl) (fun w hm => hsy w) rfl rfl rfl ?_
      intro vy _
      conv=>arg 8;simp only[zA,zB,zC,zD,zE,zF,zG,zH,zI,rowS,ret,id_eq, rowS]
      conv => arg 7; simp only [rowS]
      refine TL_know (i := 11) rfl row_slm fun hrow => ?_
      obtain ⟨ay, cy, rfl, -, hay⟩ := hrow
      repeat(first|refine QV QP ?_|refine QZ ?_|refine qcT rfl ?_|refine qcF rfl ?_|refine E_blockX ?_|refine E_blockO rfl ?_|refine QV QL ?_|refine QV QA ?_|refine QV QlT ?_|refine QV QlF ?_|refine QV QgT ?_|refine QV QgF ?_|refine QV QnT ?_|refine QV QnF ?_|refine QV QaA ?_)
      refine T_nil 3 1 ?_
      conv => arg 7; simp only [zA, zB, zC, zD, zE, zF, zG, zH, zI, rowS, ret, id_eq]
      refine T_loop (ι := Nat × List Int × List (List itemL.Item) × (RK → Option Value) × Nat × Value × List Value × (Nat → Prop) × Value)
        (fun (k, nx, S', f', c', _, _, _, _) => k ≤ ys.length ∧ (∃ E, S' = S ++ E) ∧ SsOk g.prods T (lkG g) S' ∧ S'.length ≤ 200 ∧ rowI g.prods T (lkG g) s0 (ys.drop k) nx S' = rowI g.prods T (lkG g) s0 ys [] S ∧ CacheOk (lkG g) f' ∧ c' ≤ c + 12000 * k ∧ nx.length = k ∧ (∀ y ∈ nx, kit.okI64 y) ∧ ∀ t ∈ S', t.length ≤ 11439)
        (fun (k, _, _, _, _, _, _, _, vx) => [(1, .pointer (some ⟨g1, 0, none⟩)), (2, .pointer (some ⟨g2, 0, none⟩)), (5, .pointer (some ⟨go, 0, none⟩)), (7, .pointer (some ⟨g7, 0, none⟩)), (8, .func (.func 77) #[] #[.pointer (some ⟨g6, 0, none⟩), .pointer (some ⟨g7, 0, none⟩)]), (9, .int .i64 (n : Int)), (10, vx), (44, .slice ay ys.length cy), (45, .int .i64 (ys.length : Int)), (46, .int .i64 (k : Int))])
        (fun (_, nx, S', f', c', vS', vss', F', vx) => [blkO g1 (graV g.terms g.nons (.slice bp g.prods.length cp)).cells 24, blkO g2 #[.slice none 0 0, .slice none 0 0] 103, blkO go (opC g.terms g.nons (.slice bp g.prods.length cp) gm).toArray 164, mapO restK gm f' c', blkO g6 #[.map (some gq)] 155, mapO strK gq (mapAt (S'.map nameI)) S'.length, blkO g7 #[vS', vN] 103, rowO 51 1 vS' S'.length vss', elsO (sliceS itS) F' (vss'.map fun v => [v]) S', rowO 25 1 vN Nx.length vns, elsO (sliceS intS) G (vns.map fun v => [v]) Nx, rowO 71 2 (.slice ay ys.length cy) ys.length (ys.flatMap symC), rowO 3 1 vx nx.length (nx.map (Value.int .i64))]) (fun (k, _, _, _, _, _, _, _, _) => ys.length - k)
        (0, [], S, f, c, .slice aS S.length cS, vss, F, .slice none 0 0) ⟨Nat.zero_le _, ⟨[], (List.append_nil _).symm⟩, i3, i4, rfl, i6, by omega, rfl, (fun y hy => by cases hy), i8⟩ (by repeat' (first | exact True.intro | refine And.intro rfl ?_)) rfl ?_
      clear hsy
      rintro ⟨k, nx, S', f', c', vS', vss', F', vx⟩ ⟨j1, ⟨E, hE⟩, j3, j4, j5, j6, j7, j8, j9, j10⟩
      dsimp only at j1 hE j3 j4 j5 j6 j7 j8 j9 j10 ⊢
      by_cases c2 : k < ys.length
      · have hn' : n < S'.length := by rw [hE, List.length_append]; omega
        have hsn' : S'[n]? = some s0 := by rw [hE, List.getElem?_append_left c1]; exact hsn
        refine T_know (i := 7) rfl row_slm fun hrow => ?_
        obtain ⟨aS', cS', rfl, -, haS'⟩ := hrow
        obtain ⟨gS', rfl⟩ := haS' (by omega)
        refine T_know (i := 8) rfl (fun w h => h.1.1) fun hvl => ?_
        rw [List.length_map] at hvl
        have hvn : vss'[0 + n]? = some (vss'[n]'(by omega)) := by rw [Nat.zero_add]; exact List.getElem?_eq_getElem _
        have hvn2 : vss'[n]? = some (vss'[n]'(by omega)) := List.getElem?_eq_getElem _
        generalize vss'[n]'(by omega) = vn at hvn hvn2
        obtain ⟨gy, rfl⟩ := hay (by omega)
        have hat := fun (L : List Own) (i : Nat) (hL : L[i]? = some (rowO 71 2 (.slice (some ⟨gy, 0, none⟩) ys.length cy) ys.length (ys.flatMap symC))) => at_rowel (W := (w : Base)) SymC_len hL c2
        rw [List.drop_eq_getElem_cons c2, rowI] at j5
        generalize ys[k] = x at *
        have hsl : s0.length ≤ 11439 := j10 s0 (List.mem_of_getElem? hsn')
        repeat(first|refine QV QP ?_|refine QZ ?_|refine qcT rfl ?_|refine qcF rfl ?_|refine E_blockX ?_|refine E_blockO rfl ?_|refine QV (rr_idxc Und.eq TyC.ty rfl rfl c2) ?_|refine QV (rr_loadN (cs := symC x) TyC.ty rfl rfl (hat _ 11 rfl)) ?_|refine QV QL ?_|refine QV QA ?_|refine QV QlT ?_|refine QV QlF ?_|refine QV QgT ?_|refine QV QgF ?_|refine QV QnT ?_|refine QV QnF ?_|refine QV QaA ?_)
        refine TL_new rfl fun g12 => ?_
        conv=>arg 8;simp only[zA,zB,zC,zD,zE,zF,zG,zH,zI,rowS,ret,id_eq]
        refine TL_storeB (i := 13) (cs' := (symC x).toArray) rfl rfl rfl rfl rfl rfl ?_
        conv=>arg 8;simp only[zA,zB,zC,zD,zE,zF,zG,zH,zI,rowS,ret,id_eq]
        repeat(first|refine QV QP ?_|refine QZ ?_|refine qcT rfl ?_|refine qcF rfl ?_|refine E_blockX ?_|refine E_blockO rfl ?_|refine QV QL ?_|refine QV QA ?_|refine QV QlT ?_|refine QV QlF ?_|refine QV QgT ?_|refine QV QgF ?_|refine QV QnT ?_|refine QV QnF ?_|refine QV QaA ?_)
        refine T_ord ([blkO g7 #[.slice (some ⟨gS', 0, none⟩) S'.length cS', vN] 103, rowO 51 1 (.slice (some ⟨gS', 0, none⟩) S'.length cS') S'.length vss', blkO g12 (symC x).toArray 71]) (.calm 0 (.calm 1 (.calm 2 (.calm 3 (.calm 4 (.calm 5 (.calm 6 (.one 7 (.calm 8 (.done)))))))))) (sub_pick [6, 7, 13] (by decide) rfl) (by kernel_rfl) (by kernel_rfl) (by intro c a d v w h; cases d <;> exact h) ?_
        repeat(first|((first|refine TW_plain rfl rfl ?_|refine TW_gmet rfl rfl rfl rfl ?_);first|refine QW QP ?_|refine QW (rr_load1 (v := .slice (some ⟨gS', 0, none⟩) S'.length cS') TyC.ty rfl (at_blk (i := 0) rfl rfl)) ?_|refine QW (rr_idx1 Und.eq TyC.ty rfl rfl hn') ?_|refine QW (rr_load1 (v := vn) TyC.ty rfl (at_row (i := 1) rfl hvn)) ?_|refine QW (rr_loadB (i := 2) TyC.ty rfl rfl rfl) ?_|refine QW QL ?_|refine QW QA ?_|refine QW QlT ?_|refine QW QlF ?_|refine QW QgT ?_|refine QW QgF ?_|refine QW QnT ?_|refine QW QnF ?_|refine QW QaA ?_)|refine TW_done ?_)
        refine TW_one rfl ?_
        refine TL_callB [2, 3] [0, 1, 4, 5, 6, 7, 8, 9, 10, 11, 12, 13] (by decide) rfl rfl (he3 EntersC.en rfl rfl rfl rfl) (fun w' hm hb => hst go gm c' f' s0 x vn hsr (by omega) j6 (by omega) w' _ ((Old.self w).on hm fun o h => pickMem h) (SlB.els hm (i := 8) rfl [2, 3] rfl (by decide) hsn' hvn2) hb) rfl rfl rfl ?_
        rintro ⟨f2, c2', v2⟩ ⟨hf2, hc2⟩
        dsimp only at hf2 hc2
        conv=>arg 8;simp only[zA,zB,zC,zD,zE,zF,zG,zH,zI,rowS,ret,id_eq, itClS, opL]
        conv => arg 7; simp only [itClS]
        rw [show closedI g.prods T (lkG g) (overI g.prods s0 x) = stepI g.prods T (lkG g) s0 x from rfl]
        refine TW_on (sub_pick [4, 5, 11] (by decide) rfl) ?_
        repeat(first|((first|refine TW_plain rfl rfl ?_|refine TW_gmet rfl rfl rfl rfl ?_);first|refine QW QP ?_|refine QW QL ?_|refine QW QA ?_|refine QW QlT ?_|refine QW QlF ?_|refine QW QgT ?_|refine QW QgF ?_|refine QW QnT ?_|refine QW QnF ?_|refine QW QaA ?_)|refine TW_done ?_)
        repeat(first|refine QV QP ?_|refine QZ ?_|refine qcT rfl ?_|refine qcF rfl ?_|refine E_blockX ?_|refine E_blockO rfl ?_|refine QV QL ?_|refine QV QA ?_|refine QV QlT ?_|refine QV QlF ?_|refine QV QgT ?_|refine QV QgF ?_|refine QV QnT ?_|refine QV QnF ?_|refine QV QaA ?_)
        refine TL_know (i := 14) rfl row_slm fun hrow => ?_
        obtain ⟨a2, cv2, rfl, -, ha2⟩ := hrow
        obtain ⟨hlE, hlC, hlS⟩ := cell_lawI (lk := lkG g) hwl hpl hT j3 hsr x
        have hcc : c2' ≤ c + 12000 * (k + 1) := step_cnt hc2 j7
        have hstr : ∀ it ∈ stepI g.prods T (lkG g) s0 x, RightI g.prods T it := closed_right hwl hpl hT (over_right hsr)
        have hstl : (stepI g.prods T (lkG g) s0 x).length ≤ 11439 := closed_len hwl hpl hT (over_right hsr)
        by_cases c3 : stepI g.prods T (lkG g) s0 x = []
        · have hcell : cellI g.prods T (lkG g) s0 x S' = (-1, S') := if_pos c3
          rw [hcell, if_neg (by show ¬ 200 < S'.length; omega)] at j5
          dsimp only at j5
          have hl0 : (stepI g.prods T (lkG g) s0 x).length = 0 := by rw [c3]; rfl
          repeat(first|refine QV QP ?_|refine QZ ?_|refine qcT rfl ?_|refine qcF rfl ?_|refine E_blockX ?_|refine E_blockO rfl ?_|refine QV (rr_load1 (v := .slice (some ⟨gS', 0, none⟩) S'.length cS') TyC.ty rfl (at_blk (i := 4) rfl rfl)) ?_|refine QV QL ?_|refine QV QA ?_|refine QV QlT ?_|refine QV QlF ?_|refine QV QgT ?_|refine QV QgF ?_|refine QV QnT ?_|refine QV QnF ?_|refine QV QaA ?_)
          refine TL_push1 (i := 10) rfl rfl rfl rfl rfl rfl (fun z h => by cases h; rfl) (by omega) (by omega) rfl fun z vx' => ?_
          conv=>arg 8;simp only[zA,zB,zC,zD,zE,zF,zG,zH,zI,rowS,ret,id_eq]
          repeat(first|refine QV QP ?_|refine QZ ?_|refine qcT rfl ?_|refine qcF rfl ?_|refine E_blockX ?_|refine E_blockO rfl ?_|refine QV QL ?_|refine QV QA ?_|refine QV QlT ?_|refine QV QlF ?_|refine QV QgT ?_|refine QV QgF ?_|refine QV QnT ?_|refine QV QnF ?_|refine QV QaA ?_)
          refine E_pick [0, 1, 12, 13, 2, 3, 4, 5, 6, 7, 8, 9, 10] (by decide) rfl ?_
          exact E_round (k + 1, nx ++ [-1], S', f2, c2', .slice (some ⟨gS', 0, none⟩) S'.length cS', vss', F', vx') ⟨by show k + 1 ≤ ys.length; omega, ⟨E, hE⟩, j3, j4, j5, hf2, hcc, by show (nx ++ [-1]).length = k + 1; rw [List.length_append, j8]; rfl, fun y hy => (List.mem_append.1 hy).elim (j9 y) fun h => by rw [List.mem_singleton.1 h]; exact ⟨by omega, by omega⟩, j10⟩ (by show ys.length - (k + 1) < ys.length - k; omega) (by repeat' (first | exact True.intro | refine And.intro rfl ?_)) (by dsimp only; rw [List.length_append, List.map_append]; rfl)
        · have hcell : cellI g.prods T (lkG g) s0 x S' = (((stateI S' (stepI g.prods T (lkG g) s0 x)).1 : Int), (stateI S' (stepI g.prods T (lkG g) s0 x)).2) := if_neg c3
          have hsm := small_right hwl hpl hT hstr
          have hSm : ∀ t ∈ S', SmallIt t := fun t ht => small_right hwl hpl hT (j3.right t ht)
          have hpos : 0 < (stepI g.prods T (lkG g) s0 x).length := List.length_pos_iff.2 c3
          have hq : (stateI S' (stepI g.prods T (lkG g) s0 x)).1 ≤ S'.length := by
            unfold stateI; split
            · rename_i hm; exact Nat.le_of_lt (idx_lt hm)
            · exact Nat.le_refl _
          rw [hcell] at j5 hlE hlC hlS
          dsimp only at j5 hlE hlC hlS
          repeat(first|refine QV QP ?_|refine QZ ?_|refine qcT rfl ?_|refine qcF rfl ?_|refine E_blockX ?_|refine E_blockO rfl ?_|refine QV QL ?_|refine QV QA ?_|refine QV QlT ?_|refine QV QlF ?_|refine QV QgT ?_|refine QV QgF ?_|refine QV QnT ?_|refine QV QnF ?_|refine QV QaA ?_)
          refine TL_callB [2, 3, 4, 5, 6, 14] [0, 1, 7, 8, 9, 10, 11, 12, 13] (by decide) rfl rfl (he1c EntersC.en rfl rfl) (fun w' hm hb => state_calls g6 gq g7 (.slice (some ⟨gS', 0, none⟩) S'.length cS') vN vss' F' S' _ (stepI g.prods T (lkG g) s0 x) hSm hsm (by omega) (by omega) w' _ hb) rfl rfl rfl ?_
          rintro ⟨vS2, vss2, F2⟩ _
          conv=>arg 8;simp only[zA,zB,zC,zD,zE,zF,zG,zH,zI,rowS,ret,id_eq, stL]
          have hlen2 : ∀ t ∈ (stateI S' (stepI g.prods T (lkG g) s0 x)).2, t.length ≤ 11439 := by
            unfold stateI; split
            · exact j10
            · intro t ht
              rcases List.mem_append.1 ht with h | h
              · exact j10 t h
              · rw [List.mem_singleton.1 h]; exact hstl
          generalize stateI S' (stepI g.prods T (lkG g) s0 x) = R at *
          obtain ⟨q, S2⟩ := R
          dsimp only at j5 hlE hlC hlS hq hlen2 ⊢
          refine TL_know (i := 12) rfl row_slm fun hrow => ?_
          obtain ⟨aS2, cS2, rfl, -, haS2⟩ := hrow
          obtain ⟨E2, hE2⟩ := hlE
          by_cases c4 : 200 < S2.length
          · rw [if_pos c4] at j5
            rw [← j5] at i5
            repeat(first|refine QV QP ?_|refine QZ ?_|refine qcT rfl ?_|refine qcF rfl ?_|refine E_blockX ?_|refine E_blockO rfl ?_|refine QV (rr_load1 (v := .slice aS2 S2.length cS2) TyC.ty rfl (at_blk (i := 11) rfl rfl)) ?_|refine QV (rr_gtr (b := true) rfl rfl (decide_eq_true (by omega))) ?_|refine QV (rr_build rfl hb0) ?_|refine QV QL ?_|refine QV QA ?_|refine QV QlT ?_|refine QV QlF ?_|refine QV QgT ?_|refine QV QgF ?_|refine QV QnT ?_|refine QV QnF ?_|refine QV QaA ?_)
            have hOn : outA g = ([], [], 8) := by rw [hO, ← i5]
            rw [hOn]
            refine TL_storeB (i := 1) rfl rfl rfl rfl rfl rfl ?_
            conv=>arg 8;simp only[zA,zB,zC,zD,zE,zF,zG,zH,zI,rowS,ret,id_eq]
            repeat(first|refine QV QP ?_|refine QZ ?_|refine qcT rfl ?_|refine qcF rfl ?_|refine E_blockX ?_|refine E_blockO rfl ?_|refine QV QL ?_|refine QV QA ?_|refine QV QlT ?_|refine QV QlF ?_|refine QV QgT ?_|refine QV QgF ?_|refine QV QnT ?_|refine QV QnF ?_|refine QV QaA ?_)
            refine E_nilrow 51 1 (E_extra (elsO (sliceS itS) (fun _ => False) [] []) (fun k hk => hk.elim (fun h => by cases h) id) (fun w => els_nil) (E_nilrow 25 1 (E_extra (elsO (sliceS intS) (fun _ => False) [] []) (fun k hk => hk.elim (fun h => by cases h) id) (fun w => els_nil) ?_)))
            exact E_retc2 (i := 1) rfl rfl rfl rfl rfl fun w hm => hm.meets (S := ⟨fun (_ : Value × Value × List Value × (Nat → Prop) × List Value × (Nat → Prop)) => True, fun x => .tuple #[.agg #[x.1, x.2.1], .int .i64 8], fun x => [rowO 51 1 x.1 0 x.2.2.1, elsO (sliceS itS) x.2.2.2.1 (x.2.2.1.map fun v => [v]) [], rowO 25 1 x.2.1 0 x.2.2.2.2.1, elsO (sliceS intS) x.2.2.2.2.2 (x.2.2.2.2.1.map fun v => [v]) []]⟩) (.slice none 0 0, .slice none 0 0, [], fun _ => False, [], fun _ => False) trivial [14, 15, 16, 17] (by decide) rfl
          · rw [if_neg c4] at j5
            repeat(first|refine QV QP ?_|refine QZ ?_|refine qcT rfl ?_|refine qcF rfl ?_|refine E_blockX ?_|refine E_blockO rfl ?_|refine QV (rr_load1 (v := .slice aS2 S2.length cS2) TyC.ty rfl (at_blk (i := 11) rfl rfl)) ?_|refine QV (rr_gtr (b := false) rfl rfl (decide_eq_false (by omega))) ?_|refine QV QL ?_|refine QV QA ?_|refine QV QlT ?_|refine QV QlF ?_|refine QV QgT ?_|refine QV QgF ?_|refine QV QnT ?_|refine QV QnF ?_|refine QV QaA ?_)
            refine TL_push1 (i := 5) rfl rfl rfl rfl rfl rfl (fun z h => by cases h; rfl) (by omega) (by omega) rfl fun z vx' => ?_
            conv=>arg 8;simp only[zA,zB,zC,zD,zE,zF,zG,zH,zI,rowS,ret,id_eq]
            repeat(first|refine QV QP ?_|refine QZ ?_|refine qcT rfl ?_|refine qcF rfl ?_|refine E_blockX ?_|refine E_blockO rfl ?_|refine QV QL ?_|refine QV QA ?_|refine QV QlT ?_|refine QV QlF ?_|refine QV QgT ?_|refine QV QgF ?_|refine QV QnT ?_|refine QV QnF ?_|refine QV QaA ?_)
            refine E_pick [0, 1, 7, 8, 9, 10, 11, 12, 13, 2, 3, 4, 5] (by decide) rfl ?_
            exact E_round (k + 1, nx ++ [(q : Int)], S2, f2, c2', .slice aS2 S2.length cS2, vss2, F2, vx') ⟨by show k + 1 ≤ ys.length; omega, ⟨E ++ E2, by rw [hE2, hE, List.append_assoc]⟩, hlS, by show S2.length ≤ 200; omega, j5, hf2, hcc, by show (nx ++ [(q : Int)]).length = k + 1; rw [List.length_append, j8]; rfl, fun y hy => (List.mem_append.1 hy).elim (j9 y) fun h => by rw [List.mem_singleton.1 h]; exact ⟨by omega, by omega⟩, fun t ht => hlen2 t ht⟩ (by show ys.length - (k + 1) < ys.length - k; omega) (by repeat' (first | exact True.intro | refine And.intro rfl ?_)) (by dsimp only; rw [List.length_append, List.map_append]; rfl)
      · obtain rfl : k = ys.length := by omega
        rw [List.drop_eq_nil_of_le (Nat.le_refl _), rowI] at j5
        rw [← j5] at i5
        dsimp only at i5
        repeat(first|refine QV QP ?_|refine QZ ?_|refine qcT rfl ?_|refine qcF rfl ?_|refine E_blockX ?_|refine E_blockO rfl ?_|refine QV (rr_load1 (v := vN) TyC.ty rfl (at_blk (i := 6) rfl rfl)) ?_|refine QV QL ?_|refine QV QA ?_|refine QV QlT ?_|refine QV QlF ?_|refine QV QgT ?_|refine QV QgF ?_|refine QV QnT ?_|refine QV QnF ?_|refine QV QaA ?_)
        refine TL_slv (i := 12) rfl fun hl1 hl2 => ?_
        refine TL_push1 (i := 9) rfl rfl hl1 hl2 rfl rfl (fun z h => by cases h; rfl) (by omega) (by omega) rfl fun z vN' => ?_
        conv=>arg 8;simp only[zA,zB,zC,zD,zE,zF,zG,zH,zI,rowS,ret,id_eq]
        refine TL_merge (elsO (sliceS intS) (fun k => G k ∨ vx.ownBlock = some k) ((vns.map fun v => [v]) ++ [[vx]]) (Nx ++ [nx])) 12 10 [0, 1, 2, 3, 4, 5, 6, 7, 8, 9] (by decide) rfl rfl rfl (fun k hk => hk.elim (fun h => by cases h) fun h => h.elim (fun h => .inr (.inr h)) fun h => .inl (.inl h)) (fun w hr he => els_snoc he (ints_of_row j9 hr) (row_foot hr)) ?_
        conv=>arg 8;simp only[zA,zB,zC,zD,zE,zF,zG,zH,zI,rowS,ret,id_eq]
        repeat(first|refine QV QP ?_|refine QZ ?_|refine qcT rfl ?_|refine qcF rfl ?_|refine E_blockX ?_|refine E_blockO rfl ?_|refine QV QL ?_|refine QV QA ?_|refine QV QlT ?_|refine QV QlF ?_|refine QV QgT ?_|refine QV QgF ?_|refine QV QnT ?_|refine QV QnF ?_|refine QV QaA ?_)
        refine TL_slv (i := 9) rfl fun hv1 hv2 => TL_store1 (i := 6) rfl rfl rfl hv1 hv2 rfl ?_
        conv=>arg 8;simp only[zA,zB,zC,zD,zE,zF,zG,zH,zI,rowS,ret,id_eq]
        repeat(first|refine QV QP ?_|refine QZ ?_|refine qcT rfl ?_|refine qcF rfl ?_|refine E_blockX ?_|refine E_blockO rfl ?_|refine QV QL ?_|refine QV QA ?_|refine QV QlT ?_|refine QV QlF ?_|refine QV QgT ?_|refine QV QgF ?_|refine QV QnT ?_|refine QV QnF ?_|refine QV QaA ?_)
        exact E_round (n + 1, S', Nx ++ [nx], f', c', vS', vN', vss', F', vns ++ [vx], fun k => G k ∨ vx.ownBlock = some k) ⟨by show n + 1 ≤ S'.length; rw [hE, List.length_append]; omega, by show (Nx ++ [nx]).length = n + 1; rw [List.length_append, i2]; rfl, j3, j4, by show allTo g.prods T N (lkG g) (202 - (n + 1)) (n + 1) (Nx ++ [nx]) S' = _; rw [show 202 - (n + 1) = 201 - n by omega]; exact i5, j6, by dsimp only; omega, j10⟩ (by show 202 - (n + 1) < 202 - n; omega) (by repeat' (first | exact True.intro | refine And.intro rfl ?_)) (by dsimp only; rw [List.length_append, List.map_append]; rfl)
    · have hA : allI g.prods T N (lkG g) = some (Nx, S) := by rw [← i5, show 202 - n = (201 - n) + 1 by omega, allTo, if_neg c1]
      rw [hA] at hO
      have hO : outA g = (Nx, S, 0) := hO
      rw [hO]
      refine T_know (i := 9) rfl row_slm fun hrow => ?_
      obtain ⟨aN, cN, rfl, -⟩ := hrow
      repeat(first|refine QV QP ?_|refine QZ ?_|refine qcT rfl ?_|refine qcF rfl ?_|refine E_blockX ?_|refine E_blockO rfl ?_|refine QV (rr_load1 (v := .slice aS S.length cS) TyC.ty rfl (at_blk (i := 6) rfl rfl)) ?_|refine QV (rr_loadB (i := 6) TyC.ty rfl rfl rfl) ?_|refine QV QL ?_|refine QV QA ?_|refine QV QlT ?_|refine QV QlF ?_|refine QV QgT ?_|refine QV QgF ?_|refine QV QnT ?_|refine QV QnF ?_|refine QV QaA ?_)
      refine TL_storeB (i := 1) (cs' := #[.slice aS S.length cS, .slice aN Nx.length cN]) rfl rfl rfl rfl rfl rfl ?_
      conv=>arg 8;simp only[zA,zB,zC,zD,zE,zF,zG,zH,zI,rowS,ret,id_eq]
      repeat(first|refine QV QP ?_|refine QZ ?_|refine qcT rfl ?_|refine qcF rfl ?_|refine E_blockX ?_|refine E_blockO rfl ?_|refine QV QL ?_|refine QV QA ?_|refine QV QlT ?_|refine QV QlF ?_|refine QV QgT ?_|refine QV QgF ?_|refine QV QnT ?_|refine QV QnF ?_|refine QV QaA ?_)
      exact E_retc2 (i := 1) rfl rfl rfl rfl rfl fun w hm => hm.meets (S := ⟨fun (_ : Value × Value × List Value × (Nat → Prop) × List Value × (Nat → Prop)) => True, fun x => .tuple #[.agg #[x.1, x.2.1], .int .i64 0], fun x => [rowO 51 1 x.1 S.length x.2.2.1, elsO (sliceS itS) x.2.2.2.1 (x.2.2.1.map fun v => [v]) S, rowO 25 1 x.2.1 Nx.length x.2.2.2.2.1, elsO (sliceS intS) x.2.2.2.2.2 (x.2.2.2.2.1.map fun v => [v]) Nx]⟩) (.slice aS S.length cS, .slice aN Nx.length cN, vss, F, vns, G) trivial [7, 8, 9, 10] (by decide) rfl
  · rw [if_pos c0] at hO
    rw [hO]
    repeat(first|refine QV QP ?_|refine QZ ?_|refine qcT rfl ?_|refine qcF rfl ?_|refine E_blockX ?_|refine E_blockO rfl ?_|refine QV (rr_neq (b := true) rfl rfl (decide_eq_true c0)) ?_|refine QV (rr_build rfl hb0) ?_|refine QV QL ?_|refine QV QA ?_|refine QV QlT ?_|refine QV QlF ?_|refine QV QgT ?_|refine QV QgF ?_|refine QV QnT ?_|refine QV QnF ?_|refine QV QaA ?_)
    refine TL_storeB (i := 1) rfl rfl rfl rfl rfl rfl ?_
    conv=>arg 8;simp only[zA,zB,zC,zD,zE,zF,zG,zH,zI,rowS,ret,id_eq]
    repeat(first|refine QV QP ?_|refine QZ ?_|refine qcT rfl ?_|refine qcF rfl ?_|refine E_blockX ?_|refine E_blockO rfl ?_|refine QV QL ?_|refine QV QA ?_|refine QV QlT ?_|refine QV QlF ?_|refine QV QgT ?_|refine QV QgF ?_|refine QV QnT ?_|refine QV QnF ?_|refine QV QaA ?_)
    refine E_nilrow 51 1 (E_extra (elsO (sliceS itS) (fun _ => False) [] []) (fun k hk => hk.elim (fun h => by cases h) id) (fun w => els_nil) (E_nilrow 25 1 (E_extra (elsO (sliceS intS) (fun _ => False) [] []) (fun k hk => hk.elim (fun h => by cases h) id) (fun w => els_nil) ?_)))
    exact E_retc2 (i := 1) rfl rfl rfl rfl rfl fun w hm => hm.meets (S := ⟨fun (_ : Value × Value × List Value × (Nat → Prop) × List Value × (Nat → Prop)) => True, fun x => .tuple #[.agg #[x.1, x.2.1], .int .i64 (checkG g)], fun x => [rowO 51 1 x.1 0 x.2.2.1, elsO (sliceS itS) x.2.2.2.1 (x.2.2.1.map fun v => [v]) [], rowO 25 1 x.2.1 0 x.2.2.2.2.1, elsO (sliceS intS) x.2.2.2.2.2 (x.2.2.2.2.1.map fun v => [v]) []]⟩) (.slice none 0 0, .slice none 0 0, [], fun _ => False, [], fun _ => False) trivial [2, 3, 4, 5] (by decide) rfl
end Go.Proofs.Ytlojfbnimmdehaa.eng

/- ItP -/
namespace Go.Proofs.Ytlojfbnimmdehaa.itemL
open gramL treeL smallL
section
variable {l : List gramL.Prod} {T N : Nat} {lk : Int → Int → Nat} {Nx : List (List Int)} {S : List (List Item)}
/-- what holds of the first state, and goes on over each step, holds of all -/
theorem row_pred {P : List Item → Prop} (hP : ∀ s x, (∀ it ∈ s, RightI l T it) → P s → P (stepI l T lk s x)) {s : List Item} (hs : ∀ it ∈ s, RightI l T it) (h0 : P s) : ∀ (xs : List Sym) (nx : List Int) (S : List (List Item)) (nx' : List Int) (S' : List (List Item)), (∀ s ∈ S, P s) → rowI l T lk s xs nx S = some (nx', S') → ∀ s ∈ S', P s
  | [], nx, S, nx', S', hS, h => by
    simp only [rowI, Option.some.injEq, Prod.mk.injEq] at h
    obtain ⟨_, rfl⟩ := h
    exact hS
  | x :: xs, nx, S, nx', S', hS, h => by
    rw [rowI] at h
    by_cases c : 200 < (cellI l T lk s x S).2.length
    · rw [if_pos c] at h; cases h
    · rw [if_neg c] at h
      refine row_pred hP hs h0 xs _ _ nx' S' ?_ h
      intro s' hs'
      unfold cellI at hs'
      split at hs'
      · exact hS s' hs'
      · unfold stateI at hs'
        dsimp only at hs'
        split at hs'
        · exact hS s' hs'
        · rcases List.mem_append.1 hs' with h' | h'
          · exact hS s' h'
          · rw [List.mem_singleton.1 h']; exact hP s x hs h0
theorem all_pred {P : List Item → Prop} (hw : ∀ q ∈ l, q.2.length ≤ 8) (hl : l.length ≤ 40) (hT : T ≤ 30) (hP : ∀ s x, (∀ it ∈ s, RightI l T it) → P s → P (stepI l T lk s x)) : ∀ (f n : Nat) (Nx : List (List Int)) (S : List (List Item)) (Nx' : List (List Int)) (S' : List (List Item)), (∀ s ∈ S, P s ∧ ∀ it ∈ s, RightI l T it) → allTo l T N lk f n Nx S = some (Nx', S') → ∀ s ∈ S', P s
  | 0, _, _, _, _, _, _, h => by cases h
  | f + 1, n, Nx, S, Nx', S', hS, h => by
    rw [allTo] at h
    by_cases c : n < S.length
    · rw [if_pos c] at h
      have hget : S.getD n [] = S[n] := by rw [List.getD_eq_getElem?_getD, List.getElem?_eq_getElem c]; rfl
      have hn := hS _ (List.getElem_mem c)
      rw [← hget] at hn
      cases e : rowI l T lk (S.getD n []) (symsI T N) [] S with
      | none => rw [e] at h; cases h
      | some r =>
        obtain ⟨nx, S1⟩ := r
        rw [e] at h
        dsimp only at h
        have hQ : ∀ s x, (∀ it ∈ s, RightI l T it) → (P s ∧ ∀ it ∈ s, RightI l T it) → P (stepI l T lk s x) ∧ ∀ it ∈ stepI l T lk s x, RightI l T it := fun s x h1 h2 => ⟨hP s x h1 h2.1, closed_right hw hl hT (over_right h1)⟩
        exact all_pred hw hl hT hP f (n + 1) _ S1 Nx' S' (row_pred hQ hn.2 hn (symsI T N) [] S nx S1 hS e) h
    · rw [if_neg c] at h
      simp only [Option.some.injEq, Prod.mk.injEq] at h
      obtain ⟨_, rfl⟩ := h
      exact fun s hs => (hS s hs).1
/-- the WHOLE is looked for ahead of the end alone -/
theorem all_top (hw : ∀ q ∈ l, q.2.length ≤ 8) (hl : l.length ≤ 40) (hT : T ≤ 30) (h : allI l T N lk = some (Nx, S)) : ∀ q, q < S.length → ∀ it ∈ S.getD q [], it.1 = (l.length : Int) → it.2.2 = (T : Int) := by
  have hs0 : ∀ it ∈ startI l T lk, RightI l T it := closed_right hw hl hT (start_right hl hT)
  have hexp : ∀ {it2 it : Item}, ExpI l T lk it2 it → it.1 < (l.length : Int) := fun {it2 it} h => by
    obtain ⟨_, i, k, _, h2, _, _, _, rfl⟩ := h
    show (i : Int) < _
    omega
  have := all_pred (P := fun s => ∀ it ∈ s, it.1 = (l.length : Int) → it.2.2 = (T : Int)) (N := N) hw hl hT (fun s x hs hP it hit h1 => by
    have hm := (closed_mem (lk := lk) hw hl hT (over_right (x := x) hs) (x := it)).1 hit
    cases hm with
    | base hb =>
      obtain ⟨it', h2, h3, rfl⟩ := mem_over.1 hb
      exact hP it' h2 h1
    | step _ h2 => have := hexp h2; omega) 202 0 [] [startI l T lk] Nx S (fun s hs => by
      rw [List.mem_singleton.1 hs]
      refine ⟨fun it hit h1 => ?_, hs0⟩
      have hm := (closed_mem (lk := lk) hw hl hT (start_right hl hT) (x := it)).1 hit
      cases hm with
      | base hb => rw [List.mem_singleton.1 hb]
      | step _ h2 => have := hexp h2; omega) h
  intro q hq it hit h1
  have hget : S.getD q [] = S[q] := by rw [List.getD_eq_getElem?_getD, List.getElem?_eq_getElem hq]; rfl
  rw [hget] at hit
  exact this _ (List.getElem_mem hq) it hit h1
/-- each state has few items -/
theorem all_few (hw : ∀ q ∈ l, q.2.length ≤ 8) (hl : l.length ≤ 40) (hT : T ≤ 30) (h : allI l T N lk = some (Nx, S)) : ∀ s ∈ S, s.length ≤ 11439 :=
  all_pred (P := fun s => s.length ≤ 11439) (N := N) hw hl hT (fun s x hs _ => closed_len hw hl hT (over_right hs)) 202 0 [] [startI l T lk] Nx S (fun s hs => by
    rw [List.mem_singleton.1 hs]
    exact ⟨closed_len hw hl hT (start_right hl hT), closed_right hw hl hT (start_right hl hT)⟩) h
end
end Go.Proofs.Ytlojfbnimmdehaa.itemL

/- ItJ -/
namespace Go.Proofs.Ytlojfbnimmdehaa.itemL
open gramL treeL smallL
def insI (x : Item) : List Item → List Item
  | [] => [x]
  | y :: r => if ltI x y = true then x :: y :: r else y :: insI x r
def isortI : List Item → List Item
  | [] => []
  | x :: r => insI x (isortI r)
theorem insI_mem {x y : Item} : ∀ {l : List Item}, y ∈ insI x l ↔ y = x ∨ y ∈ l
  | [] => by simp [insI]
  | z :: r => by
    rw [insI]
    split
    · simp
    · rw [List.mem_cons, insI_mem, List.mem_cons]
      constructor
      · rintro (h | h | h)
        · exact .inr (.inl h)
        · exact .inl h
        · exact .inr (.inr h)
      · rintro (h | h | h)
        · exact .inr (.inl h)
        · exact .inl h
        · exact .inr (.inr h)
theorem isort_mem {y : Item} : ∀ {l : List Item}, y ∈ isortI l ↔ y ∈ l
  | [] => Iff.rfl
  | x :: r => by rw [isortI, insI_mem, isort_mem, List.mem_cons]
theorem insI_ris {x : Item} : ∀ {l : List Item}, RisI l → x ∉ l → RisI (insI x l)
  | [], _, _ => by simp [insI, RisI]
  | y :: r, h, hn => by
    obtain ⟨h1, h2⟩ := List.pairwise_cons.1 h
    rw [insI]
    by_cases c : ltI x y = true
    · rw [if_pos c]
      refine List.pairwise_cons.2 ⟨fun z hz => ?_, h⟩
      rcases List.mem_cons.1 hz with rfl | hz
      · exact c
      · exact ltI_tr c (h1 z hz)
    · rw [if_neg c]
      refine List.pairwise_cons.2 ⟨fun z hz => ?_, insI_ris h2 fun h => hn (List.mem_cons_of_mem _ h)⟩
      rcases insI_mem.1 hz with rfl | hz
      · by_cases c2 : ltI y z = true
        · exact c2
        · exact absurd (ltI_parts z y (Bool.eq_false_iff.2 c) (Bool.eq_false_iff.2 c2)) fun e => hn (e ▸ List.mem_cons_self ..)
      · exact h1 z hz
theorem isort_ris : ∀ {l : List Item}, l.Nodup → RisI (isortI l)
  | [], _ => List.Pairwise.nil
  | x :: r, h => by
    obtain ⟨h1, h2⟩ := List.nodup_cons.1 h
    exact insI_ris (isort_ris h2) fun e => h1 (isort_mem.1 e)
theorem sort_isort {l : List Item} (h : l.Nodup) : sortI l = isortI l := ris_ext (sort_ris h) (isort_ris h) fun x => by rw [sort_mem, isort_mem]
section
variable {l : List gramL.Prod} {T : Nat} {lk : Int → Int → Nat}
theorem work_nodup : ∀ (f n : Nat) (out : List Item), out.Nodup → (workI l T lk f n out).Nodup
  | 0, _, _, h => h
  | f + 1, n, out, h => by
    rw [workI]
    split
    · exact work_nodup f _ _ (exp_nodup h)
    · exact h
def closedJ (l : List gramL.Prod) (T : Nat) (lk : Int → Int → Nat) (l0 : List Item) : List Item := isortI (workI l T lk 12000 0 (firsts [] l0))
theorem closed_eq (l0 : List Item) : closedI l T lk l0 = closedJ l T lk l0 := sort_isort (work_nodup _ _ _ (firsts_nodup _ _ List.nodup_nil))
def stepJ (l : List gramL.Prod) (T : Nat) (lk : Int → Int → Nat) (s : List Item) (x : Sym) : List Item := closedJ l T lk (overI l s x)
theorem step_eq : stepI l T lk = stepJ l T lk := by funext s x; exact closed_eq _
end
section
variable (st : List Item → Sym → List Item)
def cellG (s : List Item) (x : Sym) (S : List (List Item)) : Int × List (List Item) := if st s x = [] then (-1, S) else (((stateI S (st s x)).1 : Int), (stateI S (st s x)).2)
def rowG (s : List Item) : List Sym → List Int → List (List Item) → Option (List Int × List (List Item))
  | [], nx, S => some (nx, S)
  | x :: r, nx, S => if 200 < (cellG st s x S).2.length then none else rowG s r (nx ++ [(cellG st s x S).1]) (cellG st s x S).2
def allG (ys : List Sym) : Nat → Nat → List (List Int) → List (List Item) → Option (List (List Int) × List (List Item))
  | 0, _, _, _ => none
  | f + 1, n, Nx, S => if n < S.length then (match rowG st (S.getD n []) ys [] S with
      | none => none
      | some (nx, S') => allG ys f (n + 1) (Nx ++ [nx]) S') else some (Nx, S)
end
section
variable {l : List gramL.Prod} {T N : Nat} {lk : Int → Int → Nat}
theorem row_eq (s : List Item) : ∀ (xs : List Sym) (nx : List Int) (S : List (List Item)), rowI l T lk s xs nx S = rowG (stepI l T lk) s xs nx S
  | [], _, _ => rfl
  | x :: r, nx, S => by
    rw [rowI, rowG, row_eq s r]
    rfl
theorem allTo_eq : ∀ (f n : Nat) (Nx : List (List Int)) (S : List (List Item)), allTo l T N lk f n Nx S = allG (stepI l T lk) (symsI T N) f n Nx S
  | 0, _, _, _ => rfl
  | f + 1, n, Nx, S => by
    rw [allTo, allG, row_eq]
    split
    · cases rowG (stepI l T lk) (S.getD n []) (symsI T N) [] S with
      | none => rfl
      | some r => exact allTo_eq f _ _ _
    · rfl
theorem allI_eq : allI l T N lk = allG (stepJ l T lk) (symsI T N) 202 0 [] [closedJ l T lk [((l.length : Int), 0, (T : Int))]] := by
  unfold allI
  rw [allTo_eq, step_eq]
  unfold startI
  rw [closed_eq]
end
end Go.Proofs.Ytlojfbnimmdehaa.itemL
namespace Go.Proofs.Ytlojfbnimmdehaa.eng
open gramL treeL itemL smallL
def brkNx : List (List Int) := [[1, -1, 2], [3, -1, 4], [-1, -1, -1], [3, -1, 5], [-1, 6, -1], [-1, 7, -1], [1, -1, 8], [3, -1, 9], [-1, -1, -1], [-1, -1, -1]]
def brkSt : List (List itemL.Item) := [[(0, 0, 2), (1, 0, 2), (2, 0, 2)], [(0, 0, 1), (1, 0, 1), (1, 1, 2)], [(2, 1, 2)], [(0, 0, 1), (1, 0, 1), (1, 1, 1)], [(1, 2, 2)], [(1, 2, 1)], [(0, 0, 2), (1, 0, 2), (1, 3, 2)], [(0, 0, 1), (1, 0, 1), (1, 3, 1)], [(1, 4, 2)], [(1, 4, 1)]]
theorem brk_all : allI brkP 2 1 (lkG brkG) = some (brkNx, brkSt) := by
  rw [allI_eq]
  kernel_rfl
end Go.Proofs.Ytlojfbnimmdehaa.eng

/- OutA -/
namespace Go.Proofs.Ytlojfbnimmdehaa.eng
open Go.RowKit kit mix gramL treeL factsL itemL smallL
theorem outA_ok {g : Gram} (h : (outA g).2.2 = 0) : checkG g = 0 ∧ allI g.prods g.terms.toNat g.nons.toNat (lkG g) = some ((outA g).1, (outA g).2.1) := by
  unfold outA at h ⊢
  by_cases c : checkG g = 0
  · rw [if_neg (by rw [c]; simp)] at h ⊢
    refine ⟨c, ?_⟩
    cases e : allI g.prods g.terms.toNat g.nons.toNat (lkG g) with
    | none => rw [e] at h; cases h
    | some r => rfl
  · rw [if_pos c] at h; exact absurd h c
theorem outA_no {g : Gram} (h : (outA g).2.2 ≠ 0) : (outA g).2.1 = [] ∧ (outA g).1 = [] := by
  unfold outA at h ⊢
  by_cases c : checkG g = 0
  · rw [if_neg (by rw [c]; simp)] at h ⊢
    cases e : allI g.prods g.terms.toNat g.nons.toNat (lkG g) with
    | none => exact ⟨rfl, rfl⟩
    | some r => rw [e] at h; exact absurd rfl h
  · rw [if_pos c]; exact ⟨rfl, rfl⟩
theorem brk_ok : checkG brkG = 0 := by kernel_rfl
theorem brk_out : outA brkG = (brkNx, brkSt, 0) := by
  unfold outA
  rw [if_neg (by rw [brk_ok]; simp)]
  rw [show allI brkG.prods brkG.terms.toNat brkG.nons.toNat (lkG brkG) = some (brkNx, brkSt) from brk_all]
end Go.Proofs.Ytlojfbnimmdehaa.eng

/- LrK -/
namespace Go.Proofs.Ytlojfbnimmdehaa.eng
open Go.RowKit kit mix gramL treeL factsL itemL smallL
section
variable {P : Program} {n : Nat} {W : Base} {fr : Fr} {L : List Own} {Q : Exit → Act → World → Prop} {ops : Array Oper} {rest : List Oper} {d : Nat} {ty : TypeId} {pos : String} {after : Array Edge}
/-- 'make([]T, m)', T of some cells: an own row -/
theorem TL_makeRowN {α : Type} {f : α → List Value} {c : Nat} (hc : ∀ a, (f a).length = c) (h0 : 0 < c) (z : α) {t e : TypeId} {x y : Operand} {bytes m : Nat} {k k' : IntKind} {zs : Array Value} [ElC P t e c bytes] [ZeroC P e zs] (hz : zs.toList = f z) (hx : ev fr x = some (.int k (m : Int))) (hy : ev fr y = some (.int k' (m : Int))) (hb : bytes * m ≤ 281474976710656) (h63 : m ≤ 9223372036854775807) (hn : Nat.blt d n = true)
    (h : ∀ g, TL P n W ops Q rest ((d, .slice (some ⟨g, 0, none⟩) m m) :: fr) (L ++ [rowO e c (.slice (some ⟨g, 0, none⟩) m m) m ((List.replicate m z).flatMap f)])) : TL P n W ops Q (⟨some d, .makeSlice t x y, ty, pos, after, none⟩ :: rest) fr L := by
  refine TL_makeB hx hy (Nat.le_refl _) hb h63 hn fun g => TL_toRowN (i := L.length) c (List.getElem?_concat_length ..) (by rw [size_madeCells]) (Nat.le_refl _) h63 ?_
  have hsz : zs.size = c := by rw [← Array.length_toList, hz, hc]
  have hl : (madeCells zs (m * c)).toList.take (m * c) = (List.replicate m z).flatMap f := by
    rw [madeC hsz h0, List.take_of_length_le (by simp [hz, hc]), hz, List.flatMap_def, List.map_replicate]
  rw [hl]
  have := h g
  rwa [List.set_append_right _ _ (Nat.le_refl _), Nat.sub_self, List.set_cons_zero]
end
abbrev Fgt := Int × Int × itemL.Act × itemL.Act
def fgtC (x : Fgt) : List Value := [.int .i64 x.1, .int .i64 x.2.1, .int .i64 x.2.2.1.1, .int .i64 x.2.2.1.2, .int .i64 x.2.2.2.1, .int .i64 x.2.2.2.2]
def actS : Shp itemL.Act := flatS actC 2 (fun _ => rfl) (fun _ => True)
section
variable (l : List gramL.Prod) (T : Nat) (Nx : List (List Int)) (S : List (List itemL.Item))
abbrev actsQ (q c : Nat) : List itemL.Act := actsI l T (S.getD q []) (Nx.getD q []) c
/-- a column's fights -/
def fightsC (q c : Nat) : List Fgt := (actsQ l T Nx S q c).tail.map fun x => ((q : Int), (c : Int), (actsQ l T Nx S q c).headD (0, 0), x)
def fightsR (q : Nat) : Nat → List Fgt
  | 0 => []
  | c + 1 => fightsR q c ++ fightsC l T Nx S q c
def fightsA : Nat → List Fgt
  | 0 => []
  | q + 1 => fightsA q ++ fightsR l T Nx S q (T + 1)
def actRow (q c : Nat) : List itemL.Act := (List.range (T + 1)).map fun j => if j < c then actAt l T Nx S q j else (0, 0)
def actTab (n : Nat) : List (List itemL.Act) := (List.range n).map fun q => actRow l T Nx S q (T + 1)
def gotoTab (n : Nat) : List (List Int) := (List.range n).map fun q => (Nx.getD q []).drop T
end
/-- what Make tells -/
def outT (g : Gram) : List (List itemL.Act) × List (List Int) × List Fgt × Int := if (outA g).2.2 ≠ 0 then ([], [], [], (outA g).2.2) else (actTab g.prods g.terms.toNat (outA g).1 (outA g).2.1 (outA g).2.1.length, gotoTab g.terms.toNat (outA g).1 (outA g).2.1.length, fightsA g.prods g.terms.toNat (outA g).1 (outA g).2.1 (outA g).2.1.length, 0)
/-- tables in memory -/
structure TabX where
  vA : Value
  vas : List Value
  FA : Nat → Prop
  vG : Value
  vgs : List Value
  FG : Nat → Prop
def tabL (x : TabX) (A : List (List itemL.Act)) (G : List (List Int)) : List Own := [rowO 86 1 x.vA A.length x.vas, elsO (sliceS actS) x.FA (x.vas.map fun v => [v]) A, rowO 25 1 x.vG G.length x.vgs, elsO (sliceS intS) x.FG (x.vgs.map fun v => [v]) G]
def makeTS (g : Gram) : Spec (TabX × Value) := ⟨fun _ => True, fun x => .tuple #[.agg #[x.1.vA, x.1.vG], x.2, .int .i64 (outT g).2.2.2], fun x => tabL x.1 (outT g).1 (outT g).2.1 ++ [rowO 108 6 x.2 (outT g).2.2.1.length ((outT g).2.2.1.flatMap fgtC)]⟩
theorem build_tab0 (w : World) : (Instr.build 29 (#[] : Array (Nat × Value))).run Try.prog w = .ok (.agg #[.slice none 0 0, .slice none 0 0]) w := by kernel_rfl
theorem build_fgt (q c : Int) (a b : itemL.Act) (w : World) : (Instr.build 108 #[(0, .int .i64 q), (1, .int .i64 c), (2, .agg (actC a).toArray), (3, .agg (actC b).toArray)]).run Try.prog w = .ok (.agg (fgtC (q, c, a, b)).toArray) w := by kernel_rfl
theorem act_of_row {w : World} {v : Value} {l : List itemL.Act} (h : (rowO 87 2 v l.length (l.flatMap actC)).holds w) : (sliceS actS).is (fun k => v.ownBlock = some k) w [v] l :=
  ⟨v, rfl, SlF.of_flat (Sl.of_own h) (fun _ _ => trivial) (fun _ h => h) (fun a n cp hv => by rw [hv]; rfl)⟩
theorem actRow_len {l : List gramL.Prod} {T : Nat} {Nx : List (List Int)} {S : List (List itemL.Item)} {q c : Nat} : (actRow l T Nx S q c).length = T + 1 := by unfold actRow; rw [List.length_map, List.length_range]
theorem actRow_0 {l : List gramL.Prod} {T : Nat} {Nx : List (List Int)} {S : List (List itemL.Item)} {q : Nat} : actRow l T Nx S q 0 = List.replicate (T + 1) (0, 0) := by
  unfold actRow
  apply List.ext_getElem?
  intro j
  by_cases h : j < T + 1
  · simp [h]
  · simp [h]
theorem actRow_set {l : List gramL.Prod} {T : Nat} {Nx : List (List Int)} {S : List (List itemL.Item)} {q c : Nat} (hc : c < T + 1) : (actRow l T Nx S q c).set c (actAt l T Nx S q c) = actRow l T Nx S q (c + 1) := by
  unfold actRow
  apply List.ext_getElem?
  intro j
  rw [List.getElem?_set]
  by_cases h : j < T + 1
  · by_cases e : c = j
    · subst e; simp [h]
    · rw [if_neg e]
      simp only [List.getElem?_map, List.getElem?_range h, Option.map_some]
      by_cases e2 : j < c
      · rw [if_pos e2, if_pos (by omega)]
      · rw [if_neg e2, if_neg (by omega)]
  · have h1 : (List.range (T + 1))[j]? = none := List.getElem?_eq_none (by rw [List.length_range]; omega)
    simp only [List.getElem?_map, h1, Option.map_none]
    split
    · rename_i e; subst e; exact absurd hc h
    · rfl
theorem actRow_none {l : List gramL.Prod} {T : Nat} {Nx : List (List Int)} {S : List (List itemL.Item)} {q c : Nat} (h : actsQ l T Nx S q c = []) : actRow l T Nx S q (c + 1) = actRow l T Nx S q c := by
  unfold actRow
  apply List.map_congr_left
  intro j hj
  by_cases e : j = c
  · subst e
    rw [if_pos (Nat.lt_succ_self _), if_neg (Nat.lt_irrefl _)]
    unfold actAt
    rw [show actsI l T (S.getD q []) (Nx.getD q []) j = [] from h]; rfl
  · by_cases e2 : j < c
    · rw [if_pos e2, if_pos (by omega)]
    · rw [if_neg e2, if_neg (by omega)]
theorem fights_len {l : List gramL.Prod} {T : Nat} {Nx : List (List Int)} {S : List (List itemL.Item)} {q : Nat} {M : Nat} (h : (S.getD q []).length ≤ M) : ∀ c, (fightsR l T Nx S q c).length ≤ c * (M + 1)
  | 0 => Nat.zero_le _
  | c + 1 => by
    rw [fightsR, List.length_append, Nat.succ_mul]
    have h2 : (fightsC l T Nx S q c).length ≤ M + 1 := by
      unfold fightsC
      rw [List.length_map, List.length_tail]
      have : (actsQ l T Nx S q c).length ≤ 1 + (S.getD q []).length := by rw [actsQ, ← actsK_all]; exact actsK_len
      omega
    have := fights_len (l := l) (T := T) (Nx := Nx) h c
    omega
theorem fightsA_len {l : List gramL.Prod} {T : Nat} {Nx : List (List Int)} {S : List (List itemL.Item)} {M : Nat} (h : ∀ q, (S.getD q []).length ≤ M) : ∀ q, (fightsA l T Nx S q).length ≤ q * ((T + 1) * (M + 1))
  | 0 => Nat.zero_le _
  | q + 1 => by
    rw [fightsA, List.length_append, Nat.succ_mul]
    have := fightsA_len (l := l) (T := T) (Nx := Nx) h q
    have := fights_len (l := l) (T := T) (Nx := Nx) (h q) (T + 1)
    omega
theorem fightsR_mono {l : List gramL.Prod} {T : Nat} {Nx : List (List Int)} {S : List (List itemL.Item)} {q c : Nat} : ∀ {d : Nat}, c ≤ d → (fightsR l T Nx S q c).length ≤ (fightsR l T Nx S q d).length
  | 0, h => by obtain rfl : c = 0 := by omega
               exact Nat.le_refl _
  | d + 1, h => by
    by_cases e : c = d + 1
    · subst e; exact Nat.le_refl _
    · rw [fightsR, List.length_append]
      have := fightsR_mono (l := l) (T := T) (Nx := Nx) (S := S) (q := q) (c := c) (d := d) (by omega)
      omega
theorem actTab_succ {l : List gramL.Prod} {T : Nat} {Nx : List (List Int)} {S : List (List itemL.Item)} (n : Nat) : actTab l T Nx S (n + 1) = actTab l T Nx S n ++ [actRow l T Nx S n (T + 1)] := by unfold actTab; rw [List.range_succ, List.map_append]; rfl
theorem gotoTab_succ {T : Nat} {Nx : List (List Int)} (n : Nat) : gotoTab T Nx (n + 1) = gotoTab T Nx n ++ [(Nx.getD n []).drop T] := by unfold gotoTab; rw [List.range_succ, List.map_append]; rfl
theorem actTab_len {l : List gramL.Prod} {T : Nat} {Nx : List (List Int)} {S : List (List itemL.Item)} (n : Nat) : (actTab l T Nx S n).length = n := by unfold actTab; rw [List.length_map, List.length_range]
theorem gotoTab_len {T : Nat} {Nx : List (List Int)} (n : Nat) : (gotoTab T Nx n).length = n := by unfold gotoTab; rw [List.length_map, List.length_range]
set_option maxHeartbeats 16000000 in
theorem lrMake_calls (v : Value) (g : Gram) (w : World) (hG : GraR (fun k => k < w.heap.size) w v g) :
    Calls Try.prog 16 #[v] w (Meets (makeTS g) w) := by
  have hG0 := hG
  have hal := fun w' (hg : Gr w w') => all_calls v g w' (hG.gr hg)
  have hac := fun T hTt hT bS oS lS cS bN oN lN cN n vs1 vn1 s nx w' (hg : Gr w w') => lrActs_calls v g T hTt hT bS oS lS cS bN oN lN cN n vs1 vn1 s nx w' (hG.gr hg)
  obtain ⟨vp, rfl, -⟩ := hG
  have hb0 := build_tab0
  have hO : outT g = if (outA g).2.2 ≠ 0 then ([], [], [], (outA g).2.2) else (actTab g.prods g.terms.toNat (outA g).1 (outA g).2.1 (outA g).2.1.length, gotoTab g.terms.toNat (outA g).1 (outA g).2.1.length, fightsA g.prods g.terms.toNat (outA g).1 (outA g).2.1 (outA g).2.1.length, 0) := rfl
  unfold makeTS tabL
  refine enter (args := [graV g.terms g.nons vp]) (n := 92) Try.func16 rfl rfl rfl ?_
  refine T_seq (T_region (TL_box rfl rfl rfl fun g1 => ?_))
  conv=>arg 8;simp only[zA,zB,zC,zD,zE,zF,zG,zH,zI,rowS,ret,id_eq]
  repeat(first|refine QV QP ?_|refine QZ ?_|refine qcT rfl ?_|refine qcF rfl ?_|refine E_blockX ?_|refine E_blockO rfl ?_|refine QV QL ?_|refine QV QA ?_|refine QV QlT ?_|refine QV QlF ?_|refine QV QeT ?_|refine QV QeF ?_|refine QV QnT ?_|refine QV QnF ?_|refine QV QaA ?_)
  refine TL_new rfl fun g2 => ?_
  conv=>arg 8;simp only[zA,zB,zC,zD,zE,zF,zG,zH,zI,rowS,ret,id_eq]
  repeat(first|refine QV QP ?_|refine QZ ?_|refine qcT rfl ?_|refine qcF rfl ?_|refine E_blockX ?_|refine E_blockO rfl ?_|refine QV (rr_loadB (i := 0) TyC.ty rfl rfl rfl) ?_|refine QV QL ?_|refine QV QA ?_|refine QV QlT ?_|refine QV QlF ?_|refine QV QeT ?_|refine QV QeF ?_|refine QV QnT ?_|refine QV QnF ?_|refine QV QaA ?_)
  refine TL_call (he1 EntersC.en rfl rfl) (fun w hm => hal w hm.below) rfl rfl rfl ?_
  rintro ⟨vS, vN, vss, F, vns, FN⟩ _
  conv=>arg 8;simp only[zA,zB,zC,zD,zE,zF,zG,zH,zI,rowS,ret,id_eq, allS]
  conv => arg 7; simp only [allS]
  have hok := outA_ok (g := g)
  have hno := outA_no (g := g)
  obtain ⟨⟨Nx, S, e⟩, hOA⟩ : ∃ R, outA g = R := ⟨_, rfl⟩
  rw [hOA] at hok hno hO
  rw [hOA]
  dsimp only at hok hno hO ⊢
  refine TL_know (i := 2) rfl row_slm fun hrow => ?_
  obtain ⟨aS, cS, rfl, -, haS⟩ := hrow
  refine TL_know (i := 4) rfl row_slm fun hrow => ?_
  obtain ⟨aN, cN, rfl, -, haN⟩ := hrow
  clear hOA hal
  repeat(first|refine QV QP ?_|refine QZ ?_|refine qcT rfl ?_|refine qcF rfl ?_|refine E_blockX ?_|refine E_blockO rfl ?_|refine QV QL ?_|refine QV QA ?_|refine QV QlT ?_|refine QV QlF ?_|refine QV QeT ?_|refine QV QeF ?_|refine QV QnT ?_|refine QV QnF ?_|refine QV QaA ?_)
  refine TL_new rfl fun g5 => ?_
  conv=>arg 8;simp only[zA,zB,zC,zD,zE,zF,zG,zH,zI,rowS,ret,id_eq]
  refine TL_storeB (i := 6) (cs' := #[.slice aS S.length cS, .slice aN Nx.length cN]) rfl rfl rfl rfl rfl rfl ?_
  conv=>arg 8;simp only[zA,zB,zC,zD,zE,zF,zG,zH,zI,rowS,ret,id_eq]
  repeat(first|refine QV QP ?_|refine QZ ?_|refine qcT rfl ?_|refine qcF rfl ?_|refine E_blockX ?_|refine E_blockO rfl ?_|refine QV QL ?_|refine QV QA ?_|refine QV QlT ?_|refine QV QlF ?_|refine QV QeT ?_|refine QV QeF ?_|refine QV QnT ?_|refine QV QnF ?_|refine QV QaA ?_)
  by_cases c0 : e = 0
  · subst c0
    rw [if_neg (by simp)] at hO
    obtain ⟨hg, hA⟩ := hok rfl
    obtain ⟨hT1, hT2, hN1, hN2, hpl, hgb⟩ := checkG_ok hg
    have hwl : ∀ q ∈ g.prods, q.2.length ≤ 8 := fun q hq => (hgb q hq).1
    obtain ⟨T, hTt⟩ : ∃ T : Nat, g.terms = (T : Int) := ⟨g.terms.toNat, by omega⟩
    obtain ⟨N, hNn⟩ : ∃ N : Nat, g.nons = (N : Int) := ⟨g.nons.toNat, by omega⟩
    have hTn : g.terms.toNat = T := by omega
    rw [hTn, show g.nons.toNat = N by omega] at hA
    rw [hTn] at hO
    have hT : T ≤ 30 := by omega
    have hI := allI_law hwl hpl hT hA
    have hfew := all_few hwl hpl hT hA
    have hS0 : 0 < S.length := (List.getElem?_eq_some_iff.1 hI.start).1
    have hS2 := hI.few
    have hNl := hI.len
    have hac := hac T hTt hT
    obtain ⟨gS, rfl⟩ := haS hS0
    obtain ⟨gN, rfl⟩ := haN (by omega)
    clear hok hno haS haN
    rw [hTt, hO]
    rw [hTt] at hac
    repeat(first|refine QV QP ?_|refine QZ ?_|refine qcT rfl ?_|refine qcF rfl ?_|refine E_blockX ?_|refine E_blockO rfl ?_|refine QV QL ?_|refine QV QA ?_|refine QV QlT ?_|refine QV QlF ?_|refine QV QeT ?_|refine QV QeF ?_|refine QV QnT ?_|refine QV QnF ?_|refine QV QaA ?_)
    refine TL_new rfl fun g7 => ?_
    conv=>arg 8;simp only[zA,zB,zC,zD,zE,zF,zG,zH,zI,rowS,ret,id_eq]
    repeat(first|refine QV QP ?_|refine QZ ?_|refine qcT rfl ?_|refine qcF rfl ?_|refine E_blockX ?_|refine E_blockO rfl ?_|refine QV (rr_load1 (v := .slice (some ⟨gS, 0, none⟩) S.length cS) TyC.ty rfl (at_blk (i := 6) rfl rfl)) ?_|refine QV QL ?_|refine QV QA ?_|refine QV QlT ?_|refine QV QlF ?_|refine QV QeT ?_|refine QV QeF ?_|refine QV QnT ?_|refine QV QnF ?_|refine QV QaA ?_)
    refine T_nil 86 1 (T_extra (elsO (sliceS actS) (fun _ => False) [] []) (fun k hk => hk.elim (fun h => by cases h) id) (fun w => els_nil) (T_nil 25 1 (T_extra (elsO (sliceS intS) (fun _ => False) [] []) (fun k hk => hk.elim (fun h => by cases h) id) (fun w => els_nil) (T_nil 108 6 ?_))))
    conv => arg 7; simp only [zA, zB, zC, zD, zE, zF, zG, zH, zI, rowS, ret, id_eq]
    refine T_loop (ι := Nat × TabX × Value) (fun (n, _, _) => n ≤ S.length) (fun (n, _, vf) => [(1, .pointer (some ⟨g1, 0, none⟩)), (2, .pointer (some ⟨g2, 0, none⟩)), (5, .pointer (some ⟨g5, 0, none⟩)), (7, .pointer (some ⟨g7, 0, none⟩)), (8, vf), (26, .int .i64 (S.length : Int)), (27, .int .i64 (n : Int))])
      (fun (n, x, vf) => [blkO g1 (graV (T : Int) g.nons vp).cells 24, blkO g2 #[.slice none 0 0, .slice none 0 0] 29, rowO 51 1 (.slice (some ⟨gS, 0, none⟩) S.length cS) S.length vss, elsO (sliceS itS) F (vss.map fun v => [v]) S, rowO 25 1 (.slice (some ⟨gN, 0, none⟩) Nx.length cN) Nx.length vns, elsO (sliceS intS) FN (vns.map fun v => [v]) Nx, blkO g5 #[.slice (some ⟨gS, 0, none⟩) S.length cS, .slice (some ⟨gN, 0, none⟩) Nx.length cN] 103, blkO g7 #[x.vA, x.vG] 29, rowO 86 1 x.vA (actTab g.prods T Nx S n).length x.vas, elsO (sliceS actS) x.FA (x.vas.map fun v => [v]) (actTab g.prods T Nx S n), rowO 25 1 x.vG (gotoTab T Nx n).length x.vgs, elsO (sliceS intS) x.FG (x.vgs.map fun v => [v]) (gotoTab T Nx n), rowO 108 6 vf (fightsA g.prods T Nx S n).length ((fightsA g.prods T Nx S n).flatMap fgtC)]) (fun (n, _, _) => S.length - n) (0, ⟨.slice none 0 0, [], fun _ => False, .slice none 0 0, [], fun _ => False⟩, .slice none 0 0) (Nat.zero_le _) (by repeat' (first | exact True.intro | refine And.intro rfl ?_)) rfl ?_
    rintro ⟨n, x, vf⟩ i1
    dsimp only at i1 ⊢
    by_cases c1 : n < S.length
    · have hnN : n < Nx.length := by omega
      have hSn : S.getD n [] = S[n] := by rw [List.getD_eq_getElem?_getD, List.getElem?_eq_getElem c1]; rfl
      have hNn' : Nx.getD n [] = Nx[n] := by rw [List.getD_eq_getElem?_getD, List.getElem?_eq_getElem hnN]; rfl
      have hsr := hI.ss.right S[n] (List.getElem_mem c1)
      have hwd := hI.wide n c1
      rw [hNn'] at hwd
      have hsl := hfew S[n] (List.getElem_mem c1)
      refine T_know (i := 3) rfl (fun w h => els_count h) fun hvl => ?_
      refine T_know (i := 5) rfl (fun w h => els_count h) fun hnl => ?_
      have hvq : vss[0 + n]? = some (vss[n]'(by omega)) := by rw [Nat.zero_add]; exact List.getElem?_eq_getElem _
      have hvq2 : vss[n]? = some (vss[n]'(by omega)) := List.getElem?_eq_getElem _
      generalize vss[n]'(by omega) = vq at hvq hvq2
      have hnq : vns[0 + n]? = some (vns[n]'(by omega)) := by rw [Nat.zero_add]; exact List.getElem?_eq_getElem _
      have hnq2 : vns[n]? = some (vns[n]'(by omega)) := List.getElem?_eq_getElem _
      generalize vns[n]'(by omega) = nq at hnq hnq2
      refine T_know (i := 5) rfl (fun w h => And.intro (els_form h hnN hnq2) (SlF.okp (els_is h hnN hnq2))) fun hform => ?_
      obtain ⟨⟨aq, cq, rfl, hcq, hcq2, -⟩, hoks⟩ := hform
      have hfl : (fightsA g.prods T Nx S n ++ fightsR g.prods T Nx S n (T + 1)).length ≤ 100000000 := by
        have h1 := fightsA_len (l := g.prods) (T := T) (Nx := Nx) (S := S) (M := 11439) (fun q => by
          by_cases hq : q < S.length
          · rw [List.getD_eq_getElem?_getD, List.getElem?_eq_getElem hq]; exact hfew _ (List.getElem_mem hq)
          · rw [List.getD_eq_getElem?_getD, List.getElem?_eq_none (by omega)]; exact Nat.zero_le _) (n + 1)
        rw [fightsA] at h1
        exact Nat.le_trans h1 (Nat.le_trans (Nat.mul_le_mul (show n + 1 ≤ 200 by omega) (Nat.mul_le_mul (show T + 1 ≤ 31 by omega) (Nat.le_refl _))) (by decide))
      have hS1 := fun (L : List Own) (i : Nat) (hL : L[i]? = some (elsO (sliceS itS) F (vss.map fun v => [v]) S)) => els_sl (W := (w : Base)) (L := L) (f := itC) (c := 3) (by decide) hL c1 hvq2
      have hN1 : ∀ (L : List Own) (i : Nat) (hL : L[i]? = some (elsO (sliceS intS) FN (vns.map fun v => [v]) Nx)), SlL (w : Base) L (.slice aq Nx[n].length cq) Nx[n].length (Nx[n].map (Value.int .i64)) := fun L i hL w' hm' => by
        have := els_sl (W := (w : Base)) (L := L) (f := fun n => [Value.int .i64 n]) (c := 1) (by decide) hL hnN hnq2 w' hm'
        rwa [← List.map_eq_flatMap] at this
      repeat(first|refine QV QP ?_|refine QZ ?_|refine qcT rfl ?_|refine qcF rfl ?_|refine E_blockX ?_|refine E_blockO rfl ?_|refine QV (rr_load1 (v := .int .i64 (T : Int)) TyC.ty rfl (at_blk (i := 0) rfl rfl)) ?_|refine QV (rr_add64 (r := ((T + 1 : Nat) : Int)) rfl rfl (by omega) (by omega) (by omega)) ?_|refine QV QL ?_|refine QV QA ?_|refine QV QlT ?_|refine QV QlF ?_|refine QV QeT ?_|refine QV QeF ?_|refine QV QnT ?_|refine QV QnF ?_|refine QV QaA ?_)
      refine TL_makeRowN actC_len (by decide) (0, 0) rfl rfl rfl (by omega) (by omega) rfl fun g10 => ?_
      rw [← actRow_0 (l := g.prods) (Nx := Nx) (S := S) (q := n)]
      conv=>arg 8;simp only[zA,zB,zC,zD,zE,zF,zG,zH,zI,rowS,ret,id_eq]
      repeat(first|refine QV QP ?_|refine QZ ?_|refine qcT rfl ?_|refine qcF rfl ?_|refine E_blockX ?_|refine E_blockO rfl ?_|refine QV (rr_loadB (i := 0) TyC.ty rfl rfl rfl) ?_|refine QV (rr_loadB (i := 6) TyC.ty rfl rfl rfl) ?_|refine QV QL ?_|refine QV QA ?_|refine QV QlT ?_|refine QV QlF ?_|refine QV QeT ?_|refine QV QeF ?_|refine QV QnT ?_|refine QV QnF ?_|refine QV QaA ?_)
      refine TL_call (S := actsS T (actsI g.prods T S[n] Nx[n])) (he3 EntersC.en rfl rfl rfl rfl) (fun w hm => hac gS 0 S.length cS gN 0 Nx.length cN n vq (.slice aq Nx[n].length cq) S[n] Nx[n] w hm.below hpl c1 (row_cell (hm.get (i := 2) rfl) hvq) (hS1 _ 3 rfl w hm) hnN (row_cell (hm.get (i := 4) rfl) hnq) (hN1 _ 5 rfl w hm) (by omega) hsr (by omega) (by omega)) rfl rfl rfl ?_
      rintro ⟨ga, vs⟩ _
      conv=>arg 8;simp only[zA,zB,zC,zD,zE,zF,zG,zH,zI,rowS,ret,id_eq, actsS]
      conv => arg 7; simp only [actsS]
      rw [← hSn, ← hNn']
      clear hac
      repeat(first|refine QV QP ?_|refine QZ ?_|refine qcT rfl ?_|refine qcF rfl ?_|refine E_blockX ?_|refine E_blockO rfl ?_|refine QV QL ?_|refine QV QA ?_|refine QV QlT ?_|refine QV QlF ?_|refine QV QeT ?_|refine QV QeF ?_|refine QV QnT ?_|refine QV QnF ?_|refine QV QaA ?_)
      refine T_loop (ι := Nat × Value) (fun (c, _) => c ≤ T + 1) (fun (c, vf) => [(1, .pointer (some ⟨g1, 0, none⟩)), (2, .pointer (some ⟨g2, 0, none⟩)), (5, .pointer (some ⟨g5, 0, none⟩)), (7, .pointer (some ⟨g7, 0, none⟩)), (8, vf), (26, .int .i64 (S.length : Int)), (27, .int .i64 (n : Int)), (9, .int .i64 (n : Int)), (10, .slice (some ⟨g10, 0, none⟩) (T + 1) (T + 1)), (37, .slice (some ⟨ga, 0, none⟩) (T + 1) (T + 1)), (38, .int .i64 ((T + 1 : Nat) : Int)), (39, .int .i64 (c : Int))])
        (fun (c, vf) => [blkO g1 (graV (T : Int) g.nons vp).cells 24, blkO g2 #[.slice none 0 0, .slice none 0 0] 29, rowO 51 1 (.slice (some ⟨gS, 0, none⟩) S.length cS) S.length vss, elsO (sliceS itS) F (vss.map fun v => [v]) S, rowO 25 1 (.slice (some ⟨gN, 0, none⟩) Nx.length cN) Nx.length vns, elsO (sliceS intS) FN (vns.map fun v => [v]) Nx, blkO g5 #[.slice (some ⟨gS, 0, none⟩) S.length cS, .slice (some ⟨gN, 0, none⟩) Nx.length cN] 103, blkO g7 #[x.vA, x.vG] 29, rowO 86 1 x.vA (actTab g.prods T Nx S n).length x.vas, elsO (sliceS actS) x.FA (x.vas.map fun v => [v]) (actTab g.prods T Nx S n), rowO 25 1 x.vG (gotoTab T Nx n).length x.vgs, elsO (sliceS intS) x.FG (x.vgs.map fun v => [v]) (gotoTab T Nx n), rowO 108 6 vf (fightsA g.prods T Nx S n ++ fightsR g.prods T Nx S n c).length ((fightsA g.prods T Nx S n ++ fightsR g.prods T Nx S n c).flatMap fgtC), rowO 87 2 (.slice (some ⟨g10, 0, none⟩) (T + 1) (T + 1)) (T + 1) ((actRow g.prods T Nx S n c).flatMap actC), rowA 86 vals ga (T + 1) vs, famP (fun j => j < T + 1) (actF vs (actsI g.prods T (S.getD n []) (Nx.getD n [])))]) (fun (c, _) => T + 1 - c) (0, vf) (Nat.zero_le _) (by repeat' (first | exact True.intro | refine And.intro rfl ?_)) (by dsimp only; rw [fightsR, List.append_nil]) ?_
      rintro ⟨c, vf⟩ j1
      dsimp only at j1 ⊢
      by_cases c2 : c < T + 1
      · obtain ⟨X, hX⟩ : ∃ X, actsI g.prods T (S.getD n []) (Nx.getD n []) c = X := ⟨_, rfl⟩
        have hXl : X.length ≤ 11440 := by
          rw [← hX, ← actsK_all]
          have := actsK_len (l := g.prods) (T := T) (nx := Nx.getD n []) (t := T) (s := S.getD n []) (c := c)
          rw [hSn] at this ⊢; omega
        have hrow1 := actRow_set (l := g.prods) (Nx := Nx) (S := S) (q := n) c2
        have hrow0 : X = [] → actRow g.prods T Nx S n (c + 1) = actRow g.prods T Nx S n c := fun h => actRow_none (by unfold actsQ; rw [hX, h])
        have hhd : actAt g.prods T Nx S n c = X.headD (0, 0) := by unfold actAt; rw [hX]
        have hfs : fightsR g.prods T Nx S n (c + 1) = fightsR g.prods T Nx S n c ++ X.tail.map fun x => (((n : Int), (c : Int), X.headD (0, 0), x) : Fgt) := by
          rw [fightsR, fightsC]; unfold actsQ; rw [hX]
        have hfl2 : (fightsA g.prods T Nx S n ++ fightsR g.prods T Nx S n c).length ≤ 100000000 := by
          rw [List.length_append] at hfl ⊢
          have := fightsR_mono (l := g.prods) (T := T) (Nx := Nx) (S := S) (q := n) (show c ≤ T + 1 by omega)
          omega
        generalize hbase : fightsA g.prods T Nx S n ++ fightsR g.prods T Nx S n c = base at *
        refine T_know (i := 15) rfl (fun w h => row_slm w (h.1 c c2)) fun hrow => ?_
        obtain ⟨ax, cx, hvc, -, hax⟩ := hrow
        rw [hX] at hvc hax
        have hat15 : ∀ (L : List Own) (i : Nat) (gx : Nat), ax = some ⟨gx, 0, none⟩ → L[i]? = some (famP (fun j => j < T + 1) (actF vs (actsI g.prods T (S.getD n []) (Nx.getD n [])))) → ∀ k (hk : k < X.length) (j : Nat) (u : Value), (actC X[k])[j]? = some u → At (w : Base) L ⟨gx, 0 + k * 2 + j, none⟩ u := fun L i gx hgx hL k hk j u hu => at_hold hL fun w h => by
          have h2 := h.1 c c2
          unfold actF at h2
          rw [hvc, hX, hgx] at h2
          have hj2 : j < 2 := by rw [← actC_len X[k]]; exact (List.getElem?_eq_some_iff.1 hu).1
          exact row_cell h2 (by rw [Nat.zero_add, get_el actC_len X k j hk hj2]; exact hu)
        repeat(first|refine QV QP ?_|refine QZ ?_|refine qcT rfl ?_|refine qcF rfl ?_|refine E_blockX ?_|refine E_blockO rfl ?_|refine QV (rr_idx1 Und.eq TyC.ty rfl rfl c2) ?_|refine QV (rr_load1 (v := .slice ax X.length cx) TyC.ty rfl (by have := at_rowA (W := (w : Base)) (val := vals) (i := 14) (f := vs) (e := 86) (g := ga) (len := T + 1) (L := [blkO g1 (graV (T : Int) g.nons vp).cells 24, blkO g2 #[.slice none 0 0, .slice none 0 0] 29, rowO 51 1 (.slice (some ⟨gS, 0, none⟩) S.length cS) S.length vss, elsO (sliceS itS) F (vss.map fun v => [v]) S, rowO 25 1 (.slice (some ⟨gN, 0, none⟩) Nx.length cN) Nx.length vns, elsO (sliceS intS) FN (vns.map fun v => [v]) Nx, blkO g5 #[.slice (some ⟨gS, 0, none⟩) S.length cS, .slice (some ⟨gN, 0, none⟩) Nx.length cN] 103, blkO g7 #[x.vA, x.vG] 29, rowO 86 1 x.vA (actTab g.prods T Nx S n).length x.vas, elsO (sliceS actS) x.FA (x.vas.map fun v => [v]) (actTab g.prods T Nx S n), rowO 25 1 x.vG (gotoTab T Nx n).length x.vgs, elsO (sliceS intS) x.FG (x.vgs.map fun v => [v]) (gotoTab T Nx n), rowO 108 6 vf (base).length ((base).flatMap fgtC), rowO 87 2 (.slice (some ⟨g10, 0, none⟩) (T + 1) (T + 1)) (T + 1) ((actRow g.prods T Nx S n c).flatMap actC), rowA 86 vals ga (T + 1) vs, famP (fun j => j < T + 1) (actF vs (actsI g.prods T (S.getD n []) (Nx.getD n [])))]) rfl c2; rw [hvc] at this; exact this)) ?_|refine QV QL ?_|refine QV QA ?_|refine QV QlT ?_|refine QV QlF ?_|refine QV QeT ?_|refine QV QeF ?_|refine QV QnT ?_|refine QV QnF ?_|refine QV QaA ?_)
        refine T_loop (ι := Nat × Value) (fun (i, _) => i ≤ X.length) (fun (i, vf) => [(1, .pointer (some ⟨g1, 0, none⟩)), (2, .pointer (some ⟨g2, 0, none⟩)), (5, .pointer (some ⟨g5, 0, none⟩)), (7, .pointer (some ⟨g7, 0, none⟩)), (8, vf), (26, .int .i64 (S.length : Int)), (27, .int .i64 (n : Int)), (9, .int .i64 (n : Int)), (10, .slice (some ⟨g10, 0, none⟩) (T + 1) (T + 1)), (37, .slice (some ⟨ga, 0, none⟩) (T + 1) (T + 1)), (38, .int .i64 ((T + 1 : Nat) : Int)), (11, .int .i64 (c : Int)), (12, .slice ax X.length cx), (39, .int .i64 (c : Int)), (44, .slice ax X.length cx), (45, .int .i64 (X.length : Int)), (46, .int .i64 (i : Int))])
          (fun (i, vf) => [blkO g1 (graV (T : Int) g.nons vp).cells 24, blkO g2 #[.slice none 0 0, .slice none 0 0] 29, rowO 51 1 (.slice (some ⟨gS, 0, none⟩) S.length cS) S.length vss, elsO (sliceS itS) F (vss.map fun v => [v]) S, rowO 25 1 (.slice (some ⟨gN, 0, none⟩) Nx.length cN) Nx.length vns, elsO (sliceS intS) FN (vns.map fun v => [v]) Nx, blkO g5 #[.slice (some ⟨gS, 0, none⟩) S.length cS, .slice (some ⟨gN, 0, none⟩) Nx.length cN] 103, blkO g7 #[x.vA, x.vG] 29, rowO 86 1 x.vA (actTab g.prods T Nx S n).length x.vas, elsO (sliceS actS) x.FA (x.vas.map fun v => [v]) (actTab g.prods T Nx S n), rowO 25 1 x.vG (gotoTab T Nx n).length x.vgs, elsO (sliceS intS) x.FG (x.vgs.map fun v => [v]) (gotoTab T Nx n), rowO 108 6 vf ((base ++ (X.tail.take (i - 1)).map fun x => (((n : Int), (c : Int), X.headD (0, 0), x) : Fgt))).length (((base ++ (X.tail.take (i - 1)).map fun x => (((n : Int), (c : Int), X.headD (0, 0), x) : Fgt))).flatMap fgtC), rowO 87 2 (.slice (some ⟨g10, 0, none⟩) (T + 1) (T + 1)) (T + 1) ((if i = 0 then actRow g.prods T Nx S n c else actRow g.prods T Nx S n (c + 1)).flatMap actC), rowA 86 vals ga (T + 1) vs, famP (fun j => j < T + 1) (actF vs (actsI g.prods T (S.getD n []) (Nx.getD n [])))]) (fun (i, _) => X.length - i) (0, vf) (Nat.zero_le _) (by repeat' (first | exact True.intro | refine And.intro rfl ?_)) (by simp) ?_
        rintro ⟨i, vf⟩ k1
        dsimp only at k1 ⊢
        by_cases c3 : i < X.length
        · have hatX := fun (L : List Own) (k : Nat) (gx : Nat) (hgx : ax = some ⟨gx, 0, none⟩) (hL : L[k]? = some (famP (fun j => j < T + 1) (actF vs (actsI g.prods T (S.getD n []) (Nx.getD n []))))) => hat15 L k gx hgx hL i c3
          obtain ⟨gx, rfl⟩ := hax (by omega)
          have hat0 : ∀ (L : List Own) (k : Nat), L[k]? = some (famP (fun j => j < T + 1) (actF vs (actsI g.prods T (S.getD n []) (Nx.getD n [])))) → ∀ (j : Nat) (u : Value), (actC (X.headD (0, 0)))[j]? = some u → At (w : Base) L ⟨gx, 0 + 0 * 2 + j, none⟩ u := fun L k hL j u hu => hat15 L k gx rfl hL 0 (by omega) j u (by
            have : X.headD (0, 0) = X[0]'(by omega) := by
              cases X with
              | nil => exact absurd c3 (Nat.not_lt_zero _)
              | cons y r => rfl
            rwa [this] at hu)
          have hXi : i = 0 → X[i] = actAt g.prods T Nx S n c := fun e => by
            subst e
            rw [hhd]
            cases X with
            | nil => exact absurd c3 (Nat.not_lt_zero _)
            | cons y r => rfl
          have hXt : i ≠ 0 → X.tail.take (i + 1 - 1) = X.tail.take (i - 1) ++ [X[i]] := fun e => by
            obtain ⟨m, rfl⟩ : ∃ m, i = m + 1 := ⟨i - 1, by omega⟩
            cases X with
            | nil => exact absurd c3 (Nat.not_lt_zero _)
            | cons y r =>
              have hm : m < r.length := by simpa using c3
              show r.take (m + 1) = r.take m ++ [r[m]]
              exact List.take_succ_eq_append_getElem hm
          have hlenF : (base ++ (X.tail.take (i - 1)).map fun x => (((n : Int), (c : Int), X.headD (0, 0), x) : Fgt)).length ≤ 100100000 := by
            rw [List.length_append, List.length_map, List.length_take, List.length_tail]; omega
          have hbf := build_fgt (n : Int) (c : Int) (X.headD (0, 0))
          generalize hXX : X[i] = xa at *
          clear hat15 hS1 hN1
          repeat(first|refine QV QP ?_|refine QZ ?_|refine qcT rfl ?_|refine qcF rfl ?_|refine E_blockX ?_|refine E_blockO rfl ?_|refine QV (rr_idxc Und.eq TyC.ty rfl rfl c3) ?_|refine QV (rr_loadN (cs := actC xa) TyC.ty rfl rfl (hatX _ 15 gx rfl rfl)) ?_|refine QV QL ?_|refine QV QA ?_|refine QV QlT ?_|refine QV QlF ?_|refine QV QeT ?_|refine QV QeF ?_|refine QV QnT ?_|refine QV QnF ?_|refine QV QaA ?_)
          refine TL_new rfl fun g14 => ?_
          conv=>arg 8;simp only[zA,zB,zC,zD,zE,zF,zG,zH,zI,rowS,ret,id_eq]
          repeat(first|refine QV QP ?_|refine QZ ?_|refine qcT rfl ?_|refine qcF rfl ?_|refine E_blockX ?_|refine E_blockO rfl ?_|refine QV QL ?_|refine QV QA ?_|refine QV QlT ?_|refine QV QlF ?_|refine QV QeT ?_|refine QV QeF ?_|refine QV QnT ?_|refine QV QnF ?_|refine QV QaA ?_)
          refine TL_storeB (i := 16) (cs' := (actC xa).toArray) rfl rfl rfl rfl rfl rfl ?_
          conv=>arg 8;simp only[zA,zB,zC,zD,zE,zF,zG,zH,zI,rowS,ret,id_eq]
          by_cases q1 : i = 0
          · subst q1
            rw [if_pos rfl]
            have hXi := hXi rfl
            repeat(first|refine QV QP ?_|refine QZ ?_|refine qcT rfl ?_|refine qcF rfl ?_|refine E_blockX ?_|refine E_blockO rfl ?_|refine QV (rr_loadB (i := 16) TyC.ty rfl rfl rfl) ?_|refine QV (rr_idxc Und.eq TyC.ty rfl rfl c2) ?_|refine QV QL ?_|refine QV QA ?_|refine QV QlT ?_|refine QV QlF ?_|refine QV QeT ?_|refine QV QeF ?_|refine QV QnT ?_|refine QV QnF ?_|refine QV QaA ?_)
            refine TL_setRow actC_len (k := c) (a := xa) (i := 13) TyC.ty rfl rfl (by omega) (by rw [actRow_len]; exact c2) actRow_len.symm rfl rfl rfl ?_
            rw [hXi, hrow1]
            conv=>arg 8;simp only[zA,zB,zC,zD,zE,zF,zG,zH,zI,rowS,ret,id_eq]
            repeat(first|refine QV QP ?_|refine QZ ?_|refine qcT rfl ?_|refine qcF rfl ?_|refine E_blockX ?_|refine E_blockO rfl ?_|refine QV QL ?_|refine QV QA ?_|refine QV QlT ?_|refine QV QlF ?_|refine QV QeT ?_|refine QV QeF ?_|refine QV QnT ?_|refine QV QnF ?_|refine QV QaA ?_)
            refine E_pick [0, 1, 2, 3, 4, 5, 6, 7, 8, 9, 10, 11, 12, 13, 14, 15] (by decide) rfl ?_
            exact E_round (0 + 1, vf) (by show 0 + 1 ≤ X.length; omega) (by show X.length - (0 + 1) < X.length - 0; omega) (by repeat' (first | exact True.intro | refine And.intro rfl ?_)) (by dsimp only; rw [if_neg (by omega)]; rfl)
          · rw [if_neg q1]
            have hnext : base ++ (X.tail.take (i + 1 - 1)).map (fun x => (((n : Int), (c : Int), X.headD (0, 0), x) : Fgt)) = (base ++ (X.tail.take (i - 1)).map fun x => (((n : Int), (c : Int), X.headD (0, 0), x) : Fgt)) ++ [((n : Int), (c : Int), X.headD (0, 0), xa)] := by rw [hXt q1, List.map_append, ← List.append_assoc]; rfl
            clear hXt
            generalize (base ++ (X.tail.take (i - 1)).map fun x => (((n : Int), (c : Int), X.headD (0, 0), x) : Fgt)) = fb at *
            repeat(first|refine QV QP ?_|refine QZ ?_|refine qcT rfl ?_|refine qcF rfl ?_|refine E_blockX ?_|refine E_blockO rfl ?_|refine QV QL ?_|refine QV QA ?_|refine QV QlT ?_|refine QV QlF ?_|refine QV QeT ?_|refine QV QeF ?_|refine QV QnT ?_|refine QV QnF ?_|refine QV QaA ?_)
            refine T_ord ([famP (fun j => j < T + 1) (actF vs (actsI g.prods T (S.getD n []) (Nx.getD n []))), blkO g14 (actC xa).toArray 87]) (.calm 0 (.calm 1 (.calm 2 (.calm 3 (.calm 4 (.calm 5 (.calm 6 (.calm 7 (.one 8 (.one 9 (.calm 10 (.done)))))))))))) (sub_pick [15, 16] (by decide) rfl) (by kernel_rfl) (by kernel_rfl) (by intro c a d v w h; cases d <;> exact h) ?_
            repeat(first|((first|refine TW_plain rfl rfl ?_|refine TW_gmet rfl rfl rfl rfl ?_);first|refine QW QP ?_|refine QW (rr_idxc (j := 0) Und.eq TyC.ty rfl rfl (show 0 < X.length by omega)) ?_|refine QW (rr_loadN (cs := actC (X.headD (0, 0))) TyC.ty rfl rfl (hat0 _ 0 rfl)) ?_|refine QW (rr_loadB (i := 1) TyC.ty rfl rfl rfl) ?_|refine QW (rr_build rfl (hbf _)) ?_|refine QW QL ?_|refine QW QA ?_|refine QW QlT ?_|refine QW QlF ?_|refine QW QeT ?_|refine QW QeF ?_|refine QW QnT ?_|refine QW QnF ?_|refine QW QaA ?_)|refine TW_done ?_)
            refine TW_one rfl (TL_one (cs := (fgtC ((n : Int), (c : Int), X.headD (0, 0), xa)).toArray) rfl rfl rfl rfl rfl fun g65 => TW_on (sub_pick [15, 16] (by decide) rfl) ?_)
            refine TW_one rfl (TL_app1 (i := 12) (q := 17) rfl rfl rfl rfl rfl rfl (by omega) (by omega) rfl fun vf2 => TW_on (sub_pick [15, 16] (by decide) rfl) ?_)
            repeat(first|((first|refine TW_plain rfl rfl ?_|refine TW_gmet rfl rfl rfl rfl ?_);first|refine QW QP ?_|refine QW QL ?_|refine QW QA ?_|refine QW QlT ?_|refine QW QlF ?_|refine QW QeT ?_|refine QW QeF ?_|refine QW QnT ?_|refine QW QnF ?_|refine QW QaA ?_)|refine TW_done ?_)
            repeat(first|refine QV QP ?_|refine QZ ?_|refine qcT rfl ?_|refine qcF rfl ?_|refine E_blockX ?_|refine E_blockO rfl ?_|refine QV QL ?_|refine QV QA ?_|refine QV QlT ?_|refine QV QlF ?_|refine QV QeT ?_|refine QV QeF ?_|refine QV QnT ?_|refine QV QnF ?_|refine QV QaA ?_)
            refine E_pick [0, 1, 2, 3, 4, 5, 6, 7, 8, 9, 10, 11, 12, 13, 14, 15] (by decide) rfl ?_
            exact E_round (i + 1, vf2) (by show i + 1 ≤ X.length; omega) (by show X.length - (i + 1) < X.length - i; omega) (by repeat' (first | exact True.intro | refine And.intro rfl ?_)) (by dsimp only; rw [if_neg (by omega), hnext, List.length_append, List.flatMap_append]; rfl)
        · obtain rfl : i = X.length := by omega
          have hrow2 : (if X.length = 0 then actRow g.prods T Nx S n c else actRow g.prods T Nx S n (c + 1)) = actRow g.prods T Nx S n (c + 1) := by
            by_cases e : X.length = 0
            · rw [if_pos e]; exact (hrow0 (List.eq_nil_of_length_eq_zero e)).symm
            · rw [if_neg e]
          have htt : X.tail.take (X.length - 1) = X.tail := List.take_of_length_le (by rw [List.length_tail]; exact Nat.le_refl _)
          rw [hrow2, htt]
          repeat(first|refine QV QP ?_|refine QZ ?_|refine qcT rfl ?_|refine qcF rfl ?_|refine E_blockX ?_|refine E_blockO rfl ?_|refine QV QL ?_|refine QV QA ?_|refine QV QlT ?_|refine QV QlF ?_|refine QV QeT ?_|refine QV QeF ?_|refine QV QnT ?_|refine QV QnF ?_|refine QV QaA ?_)
          exact E_round (c + 1, vf) (by show c + 1 ≤ T + 1; omega) (by show T + 1 - (c + 1) < T + 1 - c; omega) (by repeat' (first | exact True.intro | refine And.intro rfl ?_)) (by dsimp only; rw [hfs, ← List.append_assoc, hbase])
      · obtain rfl : c = T + 1 := by omega
        have hTN : T ≤ Nx[n].length := by omega
        have hdl : (Nx[n].drop T).length = Nx[n].length - T := List.length_drop
        have htk : (Nx[n].drop T).take (Nx[n].length - T) = Nx[n].drop T := List.take_of_length_le (by rw [hdl]; exact Nat.le_refl _)
        have hSub : ∀ (L : List Own) (i : Nat), L[i]? = some (elsO (sliceS intS) FN (vns.map fun v => [v]) Nx) → SlL (w : Base) L (subV aq cq 1 T Nx[n].length) (Nx[n].length - T) ((Nx[n].drop T).map (Value.int .i64)) := fun L i hL w' hm' => by
          have h1 := els_sl (W := (w : Base)) (L := L) (f := fun n => [Value.int .i64 n]) (c := 1) (by decide) hL hnN hnq2 w' hm'
          have h2 := sl_sub (i := T) (j := Nx[n].length) (f := fun n => [Value.int .i64 n]) (fun _ => rfl) h1 hTN (Nat.le_refl _)
          rw [htk, hdl, ← List.map_eq_flatMap] at h2
          exact h2
        have hsubl : ((Nx[n].drop T).map (Value.int .i64)).length = (Nx[n].length - T) * 1 := by rw [List.length_map, hdl, Nat.mul_one]
        have hsub1 : ∀ u ∈ (Nx[n].drop T).map (Value.int .i64), u.oneCell' = true := fun u hu => by obtain ⟨y, _, rfl⟩ := List.mem_map.1 hu; rfl
        have hgo : ∀ {v : Value} {w' : World}, (rowO 3 1 v (0 + (Nx[n].length - T)) ([] ++ (Nx[n].drop T).map (Value.int .i64))).holds w' → (sliceS intS).is (fun k => v.ownBlock = some k) w' [v] ((Nx.getD n []).drop T) := fun {v w'} h => by
          rw [hNn']
          rw [Nat.zero_add, List.nil_append, ← hdl] at h
          exact ints_of_row (fun y hy => hoks y (List.mem_of_mem_drop hy)) h
        repeat(first|refine QV QP ?_|refine QZ ?_|refine qcT rfl ?_|refine qcF rfl ?_|refine E_blockX ?_|refine E_blockO rfl ?_|refine QV (rr_load1 (v := x.vA) TyC.ty rfl (at_blk (i := 7) rfl rfl)) ?_|refine QV QL ?_|refine QV QA ?_|refine QV QlT ?_|refine QV QlF ?_|refine QV QeT ?_|refine QV QeF ?_|refine QV QnT ?_|refine QV QnF ?_|refine QV QaA ?_)
        have hAl := actTab_len (l := g.prods) (T := T) (Nx := Nx) (S := S) n
        have hGl := gotoTab_len (T := T) (Nx := Nx) n
        refine TL_push1 (i := 8) rfl rfl rfl rfl rfl rfl (fun z h => by cases h; rfl) (by omega) (by omega) rfl fun z vA2 => ?_
        conv=>arg 8;simp only[zA,zB,zC,zD,zE,zF,zG,zH,zI,rowS,ret,id_eq]
        refine TL_merge (elsO (sliceS actS) (fun k => x.FA k ∨ (Value.slice (some ⟨g10, 0, none⟩) (T + 1) (T + 1)).ownBlock = some k) ((x.vas.map fun v => [v]) ++ [[.slice (some ⟨g10, 0, none⟩) (T + 1) (T + 1)]]) (actTab g.prods T Nx S n ++ [actRow g.prods T Nx S n (T + 1)])) 13 9 [0, 1, 2, 3, 4, 5, 6, 7, 8, 10, 11, 12] (by decide) rfl rfl rfl (fun k hk => hk.elim (fun h => by cases h) fun h => h.elim (fun h => .inr (.inr h)) fun h => .inl (.inl h)) (fun w hr he => els_snoc he (act_of_row (by rw [actRow_len]; exact hr)) (row_foot hr)) ?_
        conv=>arg 8;simp only[zA,zB,zC,zD,zE,zF,zG,zH,zI,rowS,ret,id_eq]
        repeat(first|refine QV QP ?_|refine QZ ?_|refine qcT rfl ?_|refine qcF rfl ?_|refine E_blockX ?_|refine E_blockO rfl ?_|refine QV QL ?_|refine QV QA ?_|refine QV QlT ?_|refine QV QlF ?_|refine QV QeT ?_|refine QV QeF ?_|refine QV QnT ?_|refine QV QnF ?_|refine QV QaA ?_)
        refine TL_slv (i := 8) rfl fun hv1 hv2 => TL_store1 (i := 7) rfl rfl rfl hv1 hv2 rfl ?_
        conv=>arg 8;simp only[zA,zB,zC,zD,zE,zF,zG,zH,zI,rowS,ret,id_eq]
        repeat(first|refine QV QP ?_|refine QZ ?_|refine qcT rfl ?_|refine qcF rfl ?_|refine E_blockX ?_|refine E_blockO rfl ?_|refine QV QL ?_|refine QV QA ?_|refine QV QlT ?_|refine QV QlF ?_|refine QV QeT ?_|refine QV QeF ?_|refine QV QnT ?_|refine QV QnF ?_|refine QV QaA ?_)
        refine T_nil 3 1 ?_
        conv => arg 7; simp only [zA, zB, zC, zD, zE, zF, zG, zH, zI, rowS, ret, id_eq]
        refine T_ord ([blkO g1 (graV (T : Int) g.nons vp).cells 24, rowO 25 1 (.slice (some ⟨gN, 0, none⟩) Nx.length cN) Nx.length vns, elsO (sliceS intS) FN (vns.map fun v => [v]) Nx, blkO g5 #[.slice (some ⟨gS, 0, none⟩) S.length cS, .slice (some ⟨gN, 0, none⟩) Nx.length cN] 103]) (.calm 0 (.calm 2 (.calm 3 (.calm 4 (.calm 5 (.calm 6 (.calm 7 (.calm 8 (.calm 9 (.two 1 (.one 10 (.one 11 (.one 12 (.calm 13 (.one 14 (.done)))))) 10 (.two 1 (.one 11 (.one 12 (.calm 13 (.one 14 (.done))))) 11 (.one 1 (.one 12 (.calm 13 (.one 14 (.done)))))))))))))))) (sub_pick [0, 4, 5, 6] (by decide) rfl) (by kernel_rfl) (by kernel_rfl) (by intro c a d v w h; cases d <;> exact h) ?_
        repeat(first|((first|refine TW_plain rfl rfl ?_|refine TW_gmet rfl rfl rfl rfl ?_);first|refine QW QP ?_|refine QW (rr_load1 (v := .slice (some ⟨gN, 0, none⟩) Nx.length cN) TyC.ty rfl (at_blk (i := 3) rfl rfl)) ?_|refine QW (rr_idx1 Und.eq TyC.ty rfl rfl hnN) ?_|refine QW (rr_load1 (v := .slice aq Nx[n].length cq) TyC.ty rfl (at_row (i := 1) rfl hnq)) ?_|refine QW (rr_load1 (v := .int .i64 (T : Int)) TyC.ty rfl (at_blk (i := 0) rfl rfl)) ?_|refine QW (rr_slfrom (i := T) Und.eq TyC.ty rfl rfl hTN hcq) ?_|refine QW QL ?_|refine QW QA ?_|refine QW QlT ?_|refine QW QlF ?_|refine QW QeT ?_|refine QW QeF ?_|refine QW QnT ?_|refine QW QnF ?_|refine QW QaA ?_)|refine TW_done ?_)
        refine TW_two rfl rfl ?wayK1 ?wayK2
        case' wayK1 =>
          refine TL_val (rr_load1 (v := x.vG) TyC.ty rfl (at_blk (i := 7) rfl rfl)) rfl rfl rfl (TW_on (sub_pick [0, 4, 5, 6] (by decide) rfl) ?_)
          refine TW_one rfl (TL_appSl (i := 13) (k := Nx[n].length - T) rfl (hSub _ 5 rfl) rfl rfl hsubl hsub1 (by omega) (by omega) rfl fun vI => TW_on (sub_pick [0, 4, 5, 6] (by decide) rfl) ?_)
          refine TW_one rfl (TL_slv (i := 13) rfl fun hw1 hw2 => TL_one (cs := #[vI]) rfl hw1 rfl rfl rfl fun g86 => TW_on (sub_pick [0, 4, 5, 6] (by decide) rfl) ?_)
        case' wayK2 =>
          refine TL_appSl (i := 13) (k := Nx[n].length - T) rfl (hSub _ 5 rfl) rfl rfl hsubl hsub1 (by omega) (by omega) rfl fun vI => TW_on (sub_pick [0, 4, 5, 6] (by decide) rfl) ?_
          refine TW_two rfl rfl ?wayK3 ?wayK4
        case' wayK3 =>
          refine TL_val (rr_load1 (v := x.vG) TyC.ty rfl (at_blk (i := 7) rfl rfl)) rfl rfl rfl (TW_on (sub_pick [0, 4, 5, 6] (by decide) rfl) ?_)
          refine TW_one rfl (TL_slv (i := 13) rfl fun hw1 hw2 => TL_one (cs := #[vI]) rfl hw1 rfl rfl rfl fun g86 => TW_on (sub_pick [0, 4, 5, 6] (by decide) rfl) ?_)
        case' wayK4 =>
          refine TL_slv (i := 13) rfl fun hw1 hw2 => TL_one (cs := #[vI]) rfl hw1 rfl rfl rfl fun g86 => TW_on (sub_pick [0, 4, 5, 6] (by decide) rfl) ?_
          refine TW_one rfl (TL_val (rr_load1 (v := x.vG) TyC.ty rfl (at_blk (i := 7) rfl rfl)) rfl rfl rfl (TW_on (sub_pick [0, 4, 5, 6] (by decide) rfl) ?_))
        all_goals
          refine TW_one rfl (TL_app11 (i := 9) (q := 14) rfl rfl rfl rfl rfl hw2 (by omega) (by omega) rfl fun vG2 => TW_on (sub_pick [0, 4, 5, 6] (by decide) rfl) ?_)
          repeat(first|((first|refine TW_plain rfl rfl ?_|refine TW_gmet rfl rfl rfl rfl ?_);first|refine QW QP ?_|refine QW QL ?_|refine QW QA ?_|refine QW QlT ?_|refine QW QlF ?_|refine QW QeT ?_|refine QW QeF ?_|refine QW QnT ?_|refine QW QnF ?_|refine QW QaA ?_)|refine TW_done ?_)
          refine TW_one rfl (TL_slv (i := 9) rfl fun hv1 hv2 => TL_store1 (i := 7) rfl rfl rfl hv1 hv2 rfl (TW_on (sub_pick [0, 4, 5, 6] (by decide) rfl) ?_))
          repeat(first|((first|refine TW_plain rfl rfl ?_|refine TW_gmet rfl rfl rfl rfl ?_);first|refine QW QP ?_|refine QW QL ?_|refine QW QA ?_|refine QW QlT ?_|refine QW QlF ?_|refine QW QeT ?_|refine QW QeF ?_|refine QW QnT ?_|refine QW QnF ?_|refine QW QaA ?_)|refine TW_done ?_)
          refine E_merge (elsO (sliceS intS) (fun k => x.FG k ∨ vI.ownBlock = some k) ((x.vgs.map fun v => [v]) ++ [[vI]]) (gotoTab T Nx n ++ [(Nx.getD n []).drop T])) 13 10 [0, 1, 2, 3, 4, 5, 6, 7, 8, 9, 11, 12] (by decide) rfl rfl rfl (fun k hk => hk.elim (fun h => by cases h) fun h => h.elim (fun h => .inr (.inr h)) fun h => .inl (.inl h)) (fun w hr he => els_snoc he (hgo hr) (row_foot hr)) ?_
          repeat(first|refine QV QP ?_|refine QZ ?_|refine qcT rfl ?_|refine qcF rfl ?_|refine E_blockX ?_|refine E_blockO rfl ?_|refine QV QL ?_|refine QV QA ?_|refine QV QlT ?_|refine QV QlF ?_|refine QV QeT ?_|refine QV QeF ?_|refine QV QnT ?_|refine QV QnF ?_|refine QV QaA ?_)
          refine E_pick [0, 1, 2, 3, 4, 5, 6, 7, 8, 11, 9, 12, 10] (by decide) rfl ?_
          exact E_round (n + 1, ⟨vA2, x.vas ++ [.slice (some ⟨g10, 0, none⟩) (T + 1) (T + 1)], fun k => x.FA k ∨ (Value.slice (some ⟨g10, 0, none⟩) (T + 1) (T + 1)).ownBlock = some k, vG2, x.vgs ++ [vI], fun k => x.FG k ∨ vI.ownBlock = some k⟩, vf) (by show n + 1 ≤ S.length; omega) (by show S.length - (n + 1) < S.length - n; omega) (by repeat' (first | exact True.intro | refine And.intro rfl ?_)) (by dsimp only; rw [show (actTab g.prods T Nx S (n + 1)).length = (actTab g.prods T Nx S n).length + 1 by rw [actTab_len, actTab_len], show (gotoTab T Nx (n + 1)).length = (gotoTab T Nx n).length + 1 by rw [gotoTab_len, gotoTab_len], actTab_succ, gotoTab_succ, List.map_append, List.map_append]; rfl)
    · obtain rfl : n = S.length := by omega
      refine T_know (i := 8) rfl (fun w h => row_slm w h) fun hrow => ?_
      obtain ⟨aA, cA, hvA, -⟩ := hrow
      refine T_know (i := 10) rfl (fun w h => row_slm w h) fun hrow => ?_
      obtain ⟨aG, cG, hvG, -⟩ := hrow
      obtain ⟨vA, vas, FA, vG, vgs, FG⟩ := x
      dsimp only at hvA hvG ⊢
      subst hvA hvG
      repeat(first|refine QV QP ?_|refine QZ ?_|refine qcT rfl ?_|refine qcF rfl ?_|refine E_blockX ?_|refine E_blockO rfl ?_|refine QV (rr_loadB (i := 7) TyC.ty rfl rfl rfl) ?_|refine QV QL ?_|refine QV QA ?_|refine QV QlT ?_|refine QV QlF ?_|refine QV QeT ?_|refine QV QeF ?_|refine QV QnT ?_|refine QV QnF ?_|refine QV QaA ?_)
      refine TL_storeB (i := 1) rfl rfl rfl rfl rfl rfl ?_
      conv=>arg 8;simp only[zA,zB,zC,zD,zE,zF,zG,zH,zI,rowS,ret,id_eq]
      repeat(first|refine QV QP ?_|refine QZ ?_|refine qcT rfl ?_|refine qcF rfl ?_|refine E_blockX ?_|refine E_blockO rfl ?_|refine QV QL ?_|refine QV QA ?_|refine QV QlT ?_|refine QV QlF ?_|refine QV QeT ?_|refine QV QeF ?_|refine QV QnT ?_|refine QV QnF ?_|refine QV QaA ?_)
      exact E_retc3 (i := 1) rfl rfl rfl rfl rfl rfl fun w hm => hm.meets (S := ⟨fun (_ : TabX × Value) => True, fun x => .tuple #[.agg #[x.1.vA, x.1.vG], x.2, .int .i64 0], fun x => [rowO 86 1 x.1.vA (actTab g.prods T Nx S S.length).length x.1.vas, elsO (sliceS actS) x.1.FA (x.1.vas.map fun v => [v]) (actTab g.prods T Nx S S.length), rowO 25 1 x.1.vG (gotoTab T Nx S.length).length x.1.vgs, elsO (sliceS intS) x.1.FG (x.1.vgs.map fun v => [v]) (gotoTab T Nx S.length), rowO 108 6 x.2 (fightsA g.prods T Nx S S.length).length ((fightsA g.prods T Nx S S.length).flatMap fgtC)]⟩) (⟨.slice aA _ cA, vas, FA, .slice aG _ cG, vgs, FG⟩, vf) trivial [8, 9, 10, 11, 12] (by decide) rfl
  · rw [if_pos c0] at hO
    rw [hO]
    repeat(first|refine QV QP ?_|refine QZ ?_|refine qcT rfl ?_|refine qcF rfl ?_|refine E_blockX ?_|refine E_blockO rfl ?_|refine QV (rr_neq (b := true) rfl rfl (decide_eq_true c0)) ?_|refine QV (rr_build rfl hb0) ?_|refine QV QL ?_|refine QV QA ?_|refine QV QlT ?_|refine QV QlF ?_|refine QV QeT ?_|refine QV QeF ?_|refine QV QnT ?_|refine QV QnF ?_|refine QV QaA ?_)
    refine TL_storeB (i := 1) rfl rfl rfl rfl rfl rfl ?_
    conv=>arg 8;simp only[zA,zB,zC,zD,zE,zF,zG,zH,zI,rowS,ret,id_eq]
    repeat(first|refine QV QP ?_|refine QZ ?_|refine qcT rfl ?_|refine qcF rfl ?_|refine E_blockX ?_|refine E_blockO rfl ?_|refine QV QL ?_|refine QV QA ?_|refine QV QlT ?_|refine QV QlF ?_|refine QV QeT ?_|refine QV QeF ?_|refine QV QnT ?_|refine QV QnF ?_|refine QV QaA ?_)
    refine E_nilrow 86 1 (E_extra (elsO (sliceS actS) (fun _ => False) [] []) (fun k hk => hk.elim (fun h => by cases h) id) (fun w => els_nil) (E_nilrow 25 1 (E_extra (elsO (sliceS intS) (fun _ => False) [] []) (fun k hk => hk.elim (fun h => by cases h) id) (fun w => els_nil) (E_nilrow 108 6 ?_))))
    exact E_retc3 (i := 1) rfl rfl rfl rfl rfl rfl fun w hm => hm.meets (S := ⟨fun (_ : TabX × Value) => True, fun x => .tuple #[.agg #[x.1.vA, x.1.vG], x.2, .int .i64 e], fun x => [rowO 86 1 x.1.vA 0 x.1.vas, elsO (sliceS actS) x.1.FA (x.1.vas.map fun v => [v]) [], rowO 25 1 x.1.vG 0 x.1.vgs, elsO (sliceS intS) x.1.FG (x.1.vgs.map fun v => [v]) [], rowO 108 6 x.2 0 []]⟩) (⟨.slice none 0 0, [], fun _ => False, .slice none 0 0, [], fun _ => False⟩, .slice none 0 0) trivial [7, 8, 9, 10, 11] (by decide) rfl
end Go.Proofs.Ytlojfbnimmdehaa.eng

/- LrC -/
namespace Go.Proofs.Ytlojfbnimmdehaa.eng
open Go.RowKit kit mix gramL treeL factsL itemL smallL
/-- a table that can be read -/
def TabR (w : World) (t : Value) (A : List (List itemL.Act)) (G : List (List Int)) : Prop := ∃ vA vG, t = .agg #[vA, vG] ∧ SlF (sliceS actS) (fun k => k < w.heap.size) w vA A ∧ SlF (sliceS intS) (fun k => k < w.heap.size) w vG G
theorem TabR.gr {w w' : World} {t : Value} {A : List (List itemL.Act)} {G : List (List Int)} (h : TabR w t A G) (hg : Gr w w') : TabR w' t A G := let ⟨a, b, h1, h2, h3⟩ := h; ⟨a, b, h1, h2.gr hg, h3.gr hg⟩
theorem tabR_of {w : World} {x : TabX} {A : List (List itemL.Act)} {G : List (List Int)} (h1 : (rowO 86 1 x.vA A.length x.vas).holds w) (h2 : (elsO (sliceS actS) x.FA (x.vas.map fun v => [v]) A).holds w) (h3 : (rowO 25 1 x.vG G.length x.vgs).holds w) (h4 : (elsO (sliceS intS) x.FG (x.vgs.map fun v => [v]) G).holds w) : TabR w (.agg #[x.vA, x.vG]) A G := by
  have h1' : (rowO 86 (sliceS actS).c x.vA A.length (x.vas.map fun v => [v]).flatten).holds w := by rw [flat_one]; exact h1
  have h3' : (rowO 25 (sliceS intS).c x.vG G.length (x.vgs.map fun v => [v]).flatten).holds w := by rw [flat_one]; exact h3
  exact ⟨x.vA, x.vG, rfl, (slf_of h1' h2 (by decide)).mono fun k hk => slO_lt h1' h2 k hk, (slf_of h3' h4 (by decide)).mono fun k hk => slO_lt h3' h4 k hk⟩
/-- a slice among slices -/
theorem slf_at {α : Type} {s : Shp α} {F : Nat → Prop} {w : World} {base : Option Addr} {n cap : Nat} {l : List (List α)} (h : SlF (sliceS s) F w (.slice base n cap) l) {i : Nat} (hi : i < l.length) : ∃ b off vi, base = some ⟨b, off, none⟩ ∧ w.cell? ⟨b, off + i, none⟩ = some vi ∧ SlF s F w vi l[i] := by
  obtain ⟨base', cap', e, _, _, h3⟩ := h
  cases e
  obtain ⟨b, off, rfl, _, h4⟩ := h3 (by omega)
  obtain ⟨cs, ⟨vi, rfl, h5⟩, h6⟩ := h4 i hi
  refine ⟨b, off, vi, rfl, ?_, h5⟩
  have := h6 0 vi rfl
  rwa [show off + i * (sliceS s).c + 0 = off + i by show off + i * 1 + 0 = _; omega] at this
theorem slf_form {α : Type} {s : Shp α} {F : Nat → Prop} {w : World} {v : Value} {l : List α} (h : SlF s F w v l) : ∃ base cap, v = .slice base l.length cap ∧ l.length ≤ cap ∧ cap ≤ 9223372036854775807 := let ⟨b, c, h1, h2, h3, _⟩ := h; ⟨b, c, h1, h2, by unfold maxLen at h3; omega⟩
def RightAct (T P n : Nat) (x : itemL.Act) (c : Nat) : Prop := (x.1 = 0 ∧ x.2 = 0) ∨ (x.1 = 1 ∧ c < T ∧ 0 ≤ x.2 ∧ x.2 < (n : Int)) ∨ (x.1 = 2 ∧ 0 ≤ x.2 ∧ x.2 < (P : Int)) ∨ (x.1 = 3 ∧ x.2 = 0 ∧ c = T)
theorem right1_calls (T P n : Nat) (nn : Int) (bp : Option Addr) (cp : Nat) (aA : Option Addr) (cA : Nat) (vG : Value) (x : itemL.Act) (c : Nat) (h : RightAct T P n x c) (w : World) :
    Calls Try.prog 37 #[graV (T : Int) nn (.slice bp P cp), .agg #[.slice aA n cA, vG], .agg (actC x).toArray, .int .i64 (c : Int)] w (Meets (ret (.bool true)) w) := by
  obtain ⟨k, m⟩ := x
  unfold RightAct at h
  dsimp only at h
  refine enter (args := [graV (T : Int) nn (.slice bp P cp), .agg #[.slice aA n cA, vG], .agg (actC (k, m)).toArray, .int .i64 (c : Int)]) (n := 59) Try.func37 rfl rfl rfl ?_
  refine T_seq (T_region (TL_box rfl rfl rfl fun g4 => ?_))
  conv=>arg 8;simp only[zA,zB,zC,zD,zE,zF,zG,zH,zI,rowS,ret,id_eq]
  refine TL_box rfl rfl rfl fun g5 => ?_
  conv=>arg 8;simp only[zA,zB,zC,zD,zE,zF,zG,zH,zI,rowS,ret,id_eq]
  refine TL_box rfl rfl rfl fun g6 => ?_
  conv=>arg 8;simp only[zA,zB,zC,zD,zE,zF,zG,zH,zI,rowS,ret,id_eq]
  rcases h with ⟨rfl, rfl⟩ | ⟨rfl, h1, h2, h3⟩ | ⟨rfl, h1, h2⟩ | ⟨rfl, rfl, rfl⟩
  · repeat(first|refine QV QP ?_|refine QZ ?_|refine qcT rfl ?_|refine qcF rfl ?_|refine qs rfl rfl rfl rfl rfl rfl ?_|((try refine qg rfl rfl rfl ?_);first|refine QV QP ?_|refine QV (rr_load1 (v := .int .i64 0) TyC.ty rfl (at_blk (i := 2) rfl rfl)) ?_|refine QV QA ?_|refine QV QlT ?_|refine QV QlF ?_|refine QV QhT ?_|refine QV QhF ?_|refine QV QeT ?_|refine QV QeF ?_|refine QV QL ?_))
    exact E_ret1 rfl rfl fun w hm => hm.ret
  · repeat(first|refine QV QP ?_|refine QZ ?_|refine qcT rfl ?_|refine qcF rfl ?_|refine qs rfl rfl rfl rfl rfl rfl ?_|((try refine qg rfl rfl rfl ?_);first|refine QV QP ?_|refine QV (rr_load1 (v := .int .i64 1) TyC.ty rfl (at_blk (i := 2) rfl rfl)) ?_|refine QV (rr_load1 (v := .int .i64 m) TyC.ty rfl (at_blk (i := 2) rfl rfl)) ?_|refine QV (rr_load1 (v := .int .i64 (T : Int)) TyC.ty rfl (at_blk (i := 0) rfl rfl)) ?_|refine QV (rr_load1 (v := .slice aA n cA) TyC.ty rfl (at_blk (i := 1) rfl rfl)) ?_|refine QV QA ?_|refine QV QlT ?_|refine QV QlF ?_|refine QV QhT ?_|refine QV QhF ?_|refine QV QeT ?_|refine QV QeF ?_|refine QV QL ?_))
    exact E_ret1 rfl rfl fun w hm => hm.ret
  · repeat(first|refine QV QP ?_|refine QZ ?_|refine qcT rfl ?_|refine qcF rfl ?_|refine qs rfl rfl rfl rfl rfl rfl ?_|((try refine qg rfl rfl rfl ?_);first|refine QV QP ?_|refine QV (rr_load1 (v := .int .i64 2) TyC.ty rfl (at_blk (i := 2) rfl rfl)) ?_|refine QV (rr_load1 (v := .int .i64 m) TyC.ty rfl (at_blk (i := 2) rfl rfl)) ?_|refine QV (rr_load1 (v := .slice bp P cp) TyC.ty rfl (at_blk (i := 0) rfl rfl)) ?_|refine QV QA ?_|refine QV QlT ?_|refine QV QlF ?_|refine QV QhT ?_|refine QV QhF ?_|refine QV QeT ?_|refine QV QeF ?_|refine QV QL ?_))
    exact E_ret1 rfl rfl fun w hm => hm.ret
  · repeat(first|refine QV QP ?_|refine QZ ?_|refine qcT rfl ?_|refine qcF rfl ?_|refine qs rfl rfl rfl rfl rfl rfl ?_|((try refine qg rfl rfl rfl ?_);first|refine QV QP ?_|refine QV (rr_load1 (v := .int .i64 3) TyC.ty rfl (at_blk (i := 2) rfl rfl)) ?_|refine QV (rr_load1 (v := .int .i64 0) TyC.ty rfl (at_blk (i := 2) rfl rfl)) ?_|refine QV (rr_load1 (v := .int .i64 (c : Int)) TyC.ty rfl (at_blk (i := 0) rfl rfl)) ?_|refine QV QA ?_|refine QV QlT ?_|refine QV QlF ?_|refine QV QhT ?_|refine QV QhF ?_|refine QV QeT ?_|refine QV QeF ?_|refine QV QL ?_))
    exact E_ret1 rfl rfl fun w hm => hm.ret
structure LrOk (g : Gram) (T N : Nat) (A : List (List itemL.Act)) (G : List (List Int)) : Prop where
  gram : checkG g = 0
  terms : g.terms = (T : Int)
  nons : g.nons = (N : Int)
  pos : 0 < A.length
  few : A.length ≤ 200
  same : G.length = A.length
  wA : ∀ i (h : i < A.length), A[i].length = T + 1
  acts : ∀ i (h : i < A.length), ∀ c (hc : c < A[i].length), RightAct T g.prods.length A.length A[i][c] c
  wG : ∀ i (h : i < G.length), G[i].length = N
  gos : ∀ i (h : i < G.length), ∀ y ∈ G[i], -1 ≤ y ∧ y < (A.length : Int)
set_option maxHeartbeats 4000000 in
theorem lrCheck_calls (v t : Value) (g : Gram) (T N : Nat) (A : List (List itemL.Act)) (G : List (List Int)) (h : LrOk g T N A G) (w : World) (hG : GraR (fun k => k < w.heap.size) w v g) (ht : TabR w t A G) :
    Calls Try.prog 11 #[v, t] w (Meets (ret (.int .i64 0)) w) := by
  have hck := fun w' (hg : Gr w w') => checkG_calls v g w' (hG.gr hg)
  obtain ⟨vp, rfl, hp, -, -⟩ := hG
  obtain ⟨bp, cp, rfl, -⟩ := hp
  obtain ⟨vA, vG, rfl, hA, hGo⟩ := ht
  obtain ⟨aA, cA, rfl, -, -⟩ := slf_form hA
  obtain ⟨aG, cG, rfl, -, -⟩ := slf_form hGo
  obtain ⟨hg, hTt, hNn, hpos, hfew, hsame, hwA, hact, hwG, hgos⟩ := h
  obtain ⟨hT1, hT2, -, hN2, hpl, -⟩ := checkG_ok hg
  rw [hg] at hck
  rw [hTt, hNn] at hck ⊢
  refine enter (args := [graV (T : Int) (N : Int) (.slice bp g.prods.length cp), .agg #[.slice aA A.length cA, .slice aG G.length cG]]) (n := 93) Try.func11 rfl rfl rfl ?_
  refine T_seq (T_region (TL_box rfl rfl rfl fun g2 => ?_))
  conv=>arg 8;simp only[zA,zB,zC,zD,zE,zF,zG,zH,zI,rowS,ret,id_eq]
  refine TL_box rfl rfl rfl fun g3 => ?_
  conv=>arg 8;simp only[zA,zB,zC,zD,zE,zF,zG,zH,zI,rowS,ret,id_eq]
  repeat(first|refine QV QP ?_|refine QZ ?_|refine qcT rfl ?_|refine qcF rfl ?_|refine E_blockX ?_|refine E_blockO rfl ?_|refine qs rfl rfl rfl rfl rfl rfl ?_|((try refine qg rfl rfl rfl ?_);first|refine QV QP ?_|refine QV (rr_loadB (i := 0) TyC.ty rfl rfl rfl) ?_|refine QV QL ?_|refine QV QA ?_|refine QV (rr_not rfl rfl) ?_|refine QV QlT ?_|refine QV QlF ?_|refine QV QgT ?_|refine QV QgF ?_|refine QV QeT ?_|refine QV QeF ?_|refine QV QnT ?_|refine QV QnF ?_|refine QV QaA ?_|refine QV QhT ?_|refine QV QhF ?_))
  refine TL_call (he1 EntersC.en rfl rfl) (fun w hm => hck w hm.below) rfl rfl rfl ?_
  intro _ _
  conv=>arg 8;simp only[zA,zB,zC,zD,zE,zF,zG,zH,zI,rowS,ret,id_eq]
  repeat(first|refine QV QP ?_|refine QZ ?_|refine qcT rfl ?_|refine qcF rfl ?_|refine E_blockX ?_|refine E_blockO rfl ?_|refine qs rfl rfl rfl rfl rfl rfl ?_|((try refine qg rfl rfl rfl ?_);first|refine QV QP ?_|refine QV (rr_load1 (v := .slice aA A.length cA) TyC.ty rfl (at_blk (i := 1) rfl rfl)) ?_|refine QV (rr_load1 (v := .slice aG G.length cG) TyC.ty rfl (at_blk (i := 1) rfl rfl)) ?_|refine QV QL ?_|refine QV QA ?_|refine QV (rr_not rfl rfl) ?_|refine QV QlT ?_|refine QV QlF ?_|refine QV QgT ?_|refine QV QgF ?_|refine QV QeT ?_|refine QV QeF ?_|refine QV QnT ?_|refine QV QnF ?_|refine QV QaA ?_|refine QV QhT ?_|refine QV QhF ?_))
  clear hck
  refine T_loop (ι := Nat) (fun i => i ≤ A.length) (fun i => [(2, .pointer (some ⟨g2, 0, none⟩)), (3, .pointer (some ⟨g3, 0, none⟩)), (6, .int .i64 (A.length : Int)), (31, .int .i64 (A.length : Int)), (32, .int .i64 (i : Int))])
    (fun _ => [blkO g2 (graV (T : Int) (N : Int) (.slice bp g.prods.length cp)).cells 24, blkO g3 (Value.agg #[.slice aA A.length cA, .slice aG G.length cG]).cells 29]) (fun i => A.length - i) 0 (Nat.zero_le _) (by repeat' (first | exact True.intro | refine And.intro rfl ?_)) rfl ?_
  intro i i1
  by_cases c1 : i < A.length
  · have c1G : i < G.length := by omega
    obtain ⟨bA, oA, vi, rfl, hcA, hsA⟩ := slf_at hA c1
    obtain ⟨bG, oG, wi, rfl, hcG, hsG⟩ := slf_at hGo c1G
    obtain ⟨ai, ci, rfl, hci, hci2⟩ := slf_form hsA
    obtain ⟨ei, di, rfl, hdi, hdi2⟩ := slf_form hsG
    have hfA := hsA.flat (f := actC) (by decide)
    have hfG := hsG.flat (f := fun n => [Value.int .i64 n]) (by decide)
    have hwAi := hwA i c1
    have hwGi := hwG i c1G
    have hacti := hact i c1
    have hgosi := hgos i c1G
    obtain ⟨_, _, e1, -, -, hrA⟩ := hfA
    cases e1
    obtain ⟨_, _, e2, -, -, hrG⟩ := hfG
    cases e2
    clear hsA hsG hact hgos hwA hwG
    have hcA' : ∀ L, At (w : Base) L ⟨bA, oA + i, none⟩ (.slice ai A[i].length ci) := fun L => at_old hcA
    have hcG' : ∀ L, At (w : Base) L ⟨bG, oG + i, none⟩ (.slice ei G[i].length di) := fun L => at_old hcG
    generalize A[i] = X at *
    generalize G[i] = Y at *
    repeat(first|refine QV QP ?_|refine QZ ?_|refine qcT rfl ?_|refine qcF rfl ?_|refine E_blockX ?_|refine E_blockO rfl ?_|refine qs rfl rfl rfl rfl rfl rfl ?_|((try refine qg rfl rfl rfl ?_);first|refine QV QP ?_|refine QV QL ?_|refine QV QA ?_|refine QV (rr_not rfl rfl) ?_|refine QV QlT ?_|refine QV QlF ?_|refine QV QgT ?_|refine QV QgF ?_|refine QV QeT ?_|refine QV QeF ?_|refine QV QnT ?_|refine QV QnF ?_|refine QV QaA ?_|refine QV QhT ?_|refine QV QhF ?_))
    refine T_ord ([blkO g2 (graV (T : Int) (N : Int) (.slice bp g.prods.length cp)).cells 24, blkO g3 (Value.agg #[.slice (some ⟨bA, oA, none⟩) A.length cA, .slice (some ⟨bG, oG, none⟩) G.length cG]).cells 29]) (.calm 0 (.calm 1 (.calm 2 (.calm 3 (.calm 4 (.calm 5 (.calm 6 (.calm 7 (.calm 8 (.calm 9 (.calm 10 (.calm 11 (.calm 12 (.calm 13 (.calm 14 (.calm 15 (.calm 16 (.calm 17 (.calm 18 (.calm 19 (.calm 20 (.done)))))))))))))))))))))) (fun _ h => h) (by kernel_rfl) (by kernel_rfl) (by intro c a d v w h; cases d <;> exact h) ?_
    repeat(first|((first|refine TW_plain rfl rfl ?_|refine TW_gmet rfl rfl rfl rfl ?_);first|refine QW QP ?_|refine QW (rr_load1 (v := .slice (some ⟨bA, oA, none⟩) A.length cA) TyC.ty rfl (at_blk (i := 1) rfl rfl)) ?_|refine QW (rr_idx1 Und.eq TyC.ty rfl rfl c1) ?_|refine QW (rr_load1 (v := .slice ai X.length ci) TyC.ty rfl (hcA' _)) ?_|refine QW (rr_load1 (v := .int .i64 (T : Int)) TyC.ty rfl (at_blk (i := 0) rfl rfl)) ?_|refine QW (rr_load1 (v := .slice (some ⟨bG, oG, none⟩) G.length cG) TyC.ty rfl (at_blk (i := 1) rfl rfl)) ?_|refine QW (rr_idx1 Und.eq TyC.ty rfl rfl c1G) ?_|refine QW (rr_load1 (v := .slice ei Y.length di) TyC.ty rfl (hcG' _)) ?_|refine QW (rr_load1 (v := .int .i64 (N : Int)) TyC.ty rfl (at_blk (i := 0) rfl rfl)) ?_|refine QW QL ?_|refine QW QA ?_|refine QW (rr_not rfl rfl) ?_|refine QW QlT ?_|refine QW QlF ?_|refine QW QgT ?_|refine QW QgF ?_|refine QW QeT ?_|refine QW QeF ?_|refine QW QnT ?_|refine QW QnF ?_|refine QW QaA ?_|refine QW QhT ?_|refine QW QhF ?_)|refine TW_skip rfl rfl rfl rfl rfl rfl rfl ?_|refine TW_done ?_)
    repeat(first|refine QV QP ?_|refine QZ ?_|refine qcT rfl ?_|refine qcF rfl ?_|refine E_blockX ?_|refine E_blockO rfl ?_|refine qs rfl rfl rfl rfl rfl rfl ?_|((try refine qg rfl rfl rfl ?_);first|refine QV QP ?_|refine QV (rr_load1 (v := .slice (some ⟨bA, oA, none⟩) A.length cA) TyC.ty rfl (at_blk (i := 1) rfl rfl)) ?_|refine QV (rr_idx1 Und.eq TyC.ty rfl rfl c1) ?_|refine QV (rr_load1 (v := .slice ai X.length ci) TyC.ty rfl (hcA' _)) ?_|refine QV QL ?_|refine QV QA ?_|refine QV (rr_not rfl rfl) ?_|refine QV QlT ?_|refine QV QlF ?_|refine QV QgT ?_|refine QV QgF ?_|refine QV QeT ?_|refine QV QeF ?_|refine QV QnT ?_|refine QV QnF ?_|refine QV QaA ?_|refine QV QhT ?_|refine QV QhF ?_))
    refine T_loop (ι := Nat) (fun c => c ≤ X.length) (fun c => [(2, .pointer (some ⟨g2, 0, none⟩)), (3, .pointer (some ⟨g3, 0, none⟩)), (6, .int .i64 (A.length : Int)), (7, .int .i64 (i : Int)), (31, .int .i64 (A.length : Int)), (32, .int .i64 (i : Int)), (60, .slice ai X.length ci), (61, .int .i64 (X.length : Int)), (62, .int .i64 (c : Int))])
      (fun _ => [blkO g2 (graV (T : Int) (N : Int) (.slice bp g.prods.length cp)).cells 24, blkO g3 (Value.agg #[.slice (some ⟨bA, oA, none⟩) A.length cA, .slice (some ⟨bG, oG, none⟩) G.length cG]).cells 29]) (fun c => X.length - c) 0 (Nat.zero_le _) (by repeat' (first | exact True.intro | refine And.intro rfl ?_)) rfl ?_
    intro c j1
    by_cases c2 : c < X.length
    · obtain ⟨b, off, rfl, hrd⟩ := hrA (by omega)
      have hat := fun L => at_el (L := L) actC_len hrd c2
      have hatA : ∀ (L : List Own) (j : Nat) (u : Value), (actC X[c])[j]? = some u → At (w : Base) L ⟨b, off + c * 2 + j, none⟩ u := hat
      have hri := hacti c c2
      clear hat
      generalize X[c] = x at *
      have hrc := right1_calls T g.prods.length A.length (N : Int) bp cp (some ⟨bA, oA, none⟩) cA (.slice (some ⟨bG, oG, none⟩) G.length cG) x c hri
      repeat(first|refine QV QP ?_|refine QZ ?_|refine qcT rfl ?_|refine qcF rfl ?_|refine E_blockX ?_|refine E_blockO rfl ?_|refine qs rfl rfl rfl rfl rfl rfl ?_|((try refine qg rfl rfl rfl ?_);first|refine QV QP ?_|refine QV (rr_idxc Und.eq TyC.ty rfl rfl c2) ?_|refine QV (rr_loadN (cs := actC x) TyC.ty rfl rfl (hatA _)) ?_|refine QV QL ?_|refine QV QA ?_|refine QV (rr_not rfl rfl) ?_|refine QV QlT ?_|refine QV QlF ?_|refine QV QgT ?_|refine QV QgF ?_|refine QV QeT ?_|refine QV QeF ?_|refine QV QnT ?_|refine QV QnF ?_|refine QV QaA ?_|refine QV QhT ?_|refine QV QhF ?_))
      refine TL_new rfl fun g9 => ?_
      conv=>arg 8;simp only[zA,zB,zC,zD,zE,zF,zG,zH,zI,rowS,ret,id_eq]
      repeat(first|refine QV QP ?_|refine QZ ?_|refine qcT rfl ?_|refine qcF rfl ?_|refine E_blockX ?_|refine E_blockO rfl ?_|refine qs rfl rfl rfl rfl rfl rfl ?_|((try refine qg rfl rfl rfl ?_);first|refine QV QP ?_|refine QV QL ?_|refine QV QA ?_|refine QV (rr_not rfl rfl) ?_|refine QV QlT ?_|refine QV QlF ?_|refine QV QgT ?_|refine QV QgF ?_|refine QV QeT ?_|refine QV QeF ?_|refine QV QnT ?_|refine QV QnF ?_|refine QV QaA ?_|refine QV QhT ?_|refine QV QhF ?_))
      refine TL_storeB (i := 2) (cs' := (actC x).toArray) rfl rfl rfl rfl rfl rfl ?_
      conv=>arg 8;simp only[zA,zB,zC,zD,zE,zF,zG,zH,zI,rowS,ret,id_eq]
      repeat(first|refine QV QP ?_|refine QZ ?_|refine qcT rfl ?_|refine qcF rfl ?_|refine E_blockX ?_|refine E_blockO rfl ?_|refine qs rfl rfl rfl rfl rfl rfl ?_|((try refine qg rfl rfl rfl ?_);first|refine QV QP ?_|refine QV (rr_loadB (i := 0) TyC.ty rfl rfl rfl) ?_|refine QV (rr_loadB (i := 1) TyC.ty rfl rfl rfl) ?_|refine QV (rr_loadB (i := 2) TyC.ty rfl rfl rfl) ?_|refine QV QL ?_|refine QV QA ?_|refine QV (rr_not rfl rfl) ?_|refine QV QlT ?_|refine QV QlF ?_|refine QV QgT ?_|refine QV QgF ?_|refine QV QeT ?_|refine QV QeF ?_|refine QV QnT ?_|refine QV QnF ?_|refine QV QaA ?_|refine QV QhT ?_|refine QV QhF ?_))
      refine TL_call (he4 EntersC.en rfl rfl rfl rfl rfl) (fun w hm => hrc w) rfl rfl rfl ?_
      intro _ _
      conv=>arg 8;simp only[zA,zB,zC,zD,zE,zF,zG,zH,zI,rowS,ret,id_eq]
      repeat(first|refine QV QP ?_|refine QZ ?_|refine qcT rfl ?_|refine qcF rfl ?_|refine E_blockX ?_|refine E_blockO rfl ?_|refine qs rfl rfl rfl rfl rfl rfl ?_|((try refine qg rfl rfl rfl ?_);first|refine QV QP ?_|refine QV QL ?_|refine QV QA ?_|refine QV (rr_not rfl rfl) ?_|refine QV QlT ?_|refine QV QlF ?_|refine QV QgT ?_|refine QV QgF ?_|refine QV QeT ?_|refine QV QeF ?_|refine QV QnT ?_|refine QV QnF ?_|refine QV QaA ?_|refine QV QhT ?_|refine QV QhF ?_))
      refine E_pick [0, 1] (by decide) rfl ?_
      exact E_round (c + 1) (by omega) (by show X.length - (c + 1) < X.length - c; omega) (by repeat' (first | exact True.intro | refine And.intro rfl ?_)) rfl
    obtain rfl : c = X.length := by omega
    repeat(first|refine QV QP ?_|refine QZ ?_|refine qcT rfl ?_|refine qcF rfl ?_|refine E_blockX ?_|refine E_blockO rfl ?_|refine qs rfl rfl rfl rfl rfl rfl ?_|((try refine qg rfl rfl rfl ?_);first|refine QV QP ?_|refine QV (rr_load1 (v := .slice (some ⟨bG, oG, none⟩) G.length cG) TyC.ty rfl (at_blk (i := 1) rfl rfl)) ?_|refine QV (rr_idx1 Und.eq TyC.ty rfl rfl c1G) ?_|refine QV (rr_load1 (v := .slice ei Y.length di) TyC.ty rfl (hcG' _)) ?_|refine QV QL ?_|refine QV QA ?_|refine QV (rr_not rfl rfl) ?_|refine QV QlT ?_|refine QV QlF ?_|refine QV QgT ?_|refine QV QgF ?_|refine QV QeT ?_|refine QV QeF ?_|refine QV QnT ?_|refine QV QnF ?_|refine QV QaA ?_|refine QV QhT ?_|refine QV QhF ?_))
    refine T_loop (ι := Nat) (fun c => c ≤ Y.length) (fun c => [(2, .pointer (some ⟨g2, 0, none⟩)), (3, .pointer (some ⟨g3, 0, none⟩)), (6, .int .i64 (A.length : Int)), (31, .int .i64 (A.length : Int)), (32, .int .i64 (i : Int)), (78, .slice ei Y.length di), (79, .int .i64 (Y.length : Int)), (80, .int .i64 (c : Int))])
      (fun _ => [blkO g2 (graV (T : Int) (N : Int) (.slice bp g.prods.length cp)).cells 24, blkO g3 (Value.agg #[.slice (some ⟨bA, oA, none⟩) A.length cA, .slice (some ⟨bG, oG, none⟩) G.length cG]).cells 29]) (fun c => Y.length - c) 0 (Nat.zero_le _) (by repeat' (first | exact True.intro | refine And.intro rfl ?_)) rfl ?_
    intro c k1
    by_cases c3 : c < Y.length
    · obtain ⟨b, off, rfl, hrd⟩ := hrG (by omega)
      have hat := fun L => at_el (L := L) (f := fun n => [Value.int .i64 n]) (c := 1) (fun _ => rfl) hrd c3 0 _ rfl
      have hatA : ∀ (L : List Own), At (w : Base) L ⟨b, off + c * 1 + 0, none⟩ (.int .i64 Y[c]) := hat
      have hgo := hgosi Y[c] (List.getElem_mem c3)
      clear hat
      generalize Y[c] = y at *
      repeat(first|refine QV QP ?_|refine QZ ?_|refine qcT rfl ?_|refine qcF rfl ?_|refine E_blockX ?_|refine E_blockO rfl ?_|refine qs rfl rfl rfl rfl rfl rfl ?_|((try refine qg rfl rfl rfl ?_);first|refine QV QP ?_|refine QV (rr_idxc Und.eq TyC.ty rfl rfl c3) ?_|refine QV (rr_load1 (v := .int .i64 y) TyC.ty rfl (hatA _)) ?_|refine QV QL ?_|refine QV QA ?_|refine QV (rr_not rfl rfl) ?_|refine QV QlT ?_|refine QV QlF ?_|refine QV QgT ?_|refine QV QgF ?_|refine QV QeT ?_|refine QV QeF ?_|refine QV QnT ?_|refine QV QnF ?_|refine QV QaA ?_|refine QV QhT ?_|refine QV QhF ?_))
      exact E_round (c + 1) (by omega) (by show Y.length - (c + 1) < Y.length - c; omega) (by repeat' (first | exact True.intro | refine And.intro rfl ?_)) rfl
    obtain rfl : c = Y.length := by omega
    repeat(first|refine QV QP ?_|refine QZ ?_|refine qcT rfl ?_|refine qcF rfl ?_|refine E_blockX ?_|refine E_blockO rfl ?_|refine qs rfl rfl rfl rfl rfl rfl ?_|((try refine qg rfl rfl rfl ?_);first|refine QV QP ?_|refine QV QL ?_|refine QV QA ?_|refine QV (rr_not rfl rfl) ?_|refine QV QlT ?_|refine QV QlF ?_|refine QV QgT ?_|refine QV QgF ?_|refine QV QeT ?_|refine QV QeF ?_|refine QV QnT ?_|refine QV QnF ?_|refine QV QaA ?_|refine QV QhT ?_|refine QV QhF ?_))
    exact E_round (i + 1) (by omega) (by show A.length - (i + 1) < A.length - i; omega) (by repeat' (first | exact True.intro | refine And.intro rfl ?_)) rfl
  · obtain rfl : i = A.length := by omega
    repeat(first|refine QV QP ?_|refine QZ ?_|refine qcT rfl ?_|refine qcF rfl ?_|refine E_blockX ?_|refine E_blockO rfl ?_|refine qs rfl rfl rfl rfl rfl rfl ?_|((try refine qg rfl rfl rfl ?_);first|refine QV QP ?_|refine QV QL ?_|refine QV QA ?_|refine QV (rr_not rfl rfl) ?_|refine QV QlT ?_|refine QV QlF ?_|refine QV QgT ?_|refine QV QgF ?_|refine QV QeT ?_|refine QV QeF ?_|refine QV QnT ?_|refine QV QnF ?_|refine QV QaA ?_|refine QV QhT ?_|refine QV QhF ?_))
    exact E_ret1 rfl rfl fun w hm => hm.ret
/-- what calm tells -/
def calmB (g : Gram) : Bool := decide ((outT g).2.2.2 = 0) && decide ((outT g).2.2.1.length = 0)
def calmS (g : Gram) : Spec TabX := ⟨fun _ => True, fun x => .tuple #[.agg #[x.vA, x.vG], .bool (calmB g)], fun x => tabL x (outT g).1 (outT g).2.1⟩
theorem calm_calls (v : Value) (g : Gram) (w : World) (hG : GraR (fun k => k < w.heap.size) w v g) : Calls Try.prog 9 #[v] w (Meets (calmS g) w) := by
  have hmk := fun w' (hg : Gr w w') => lrMake_calls v g w' (hG.gr hg)
  obtain ⟨vp, rfl, -⟩ := hG
  refine enter (args := [graV g.terms g.nons vp]) (n := 21) Try.func9 rfl rfl rfl ?_
  refine T_seq (T_region (TL_box rfl rfl rfl fun g1 => ?_))
  conv=>arg 8;simp only[zA,zB,zC,zD,zE,zF,zG,zH,zI,rowS,ret,id_eq]
  repeat(first|refine QV QP ?_|refine QZ ?_|refine qs rfl rfl rfl rfl rfl rfl ?_|((try refine qg rfl rfl rfl ?_);first|refine QV QP ?_|refine QV QeT ?_|refine QV QeF ?_|refine QV QL ?_))
  refine TL_new rfl fun g2 => ?_
  conv=>arg 8;simp only[zA,zB,zC,zD,zE,zF,zG,zH,zI,rowS,ret,id_eq]
  repeat(first|refine QV QP ?_|refine QZ ?_|refine qs rfl rfl rfl rfl rfl rfl ?_|((try refine qg rfl rfl rfl ?_);first|refine QV QP ?_|refine QV (rr_loadB (i := 0) TyC.ty rfl rfl rfl) ?_|refine QV QeT ?_|refine QV QeF ?_|refine QV QL ?_))
  refine TL_call (he1 EntersC.en rfl rfl) (fun w hm => hmk w hm.below) rfl rfl rfl ?_
  rintro ⟨x, vf⟩ _
  conv=>arg 8;simp only[zA,zB,zC,zD,zE,zF,zG,zH,zI,rowS,ret,id_eq, makeTS, tabL]
  conv => arg 7; simp only [makeTS]
  unfold calmS calmB tabL
  obtain ⟨⟨A, G, fl, e⟩, hO⟩ : ∃ R, outT g = R := ⟨_, rfl⟩
  rw [hO]
  dsimp only
  refine TL_know (i := 6) rfl row_slm fun hrow => ?_
  obtain ⟨af, cf, rfl, -⟩ := hrow
  refine TL_know (i := 2) rfl row_slm fun hrow => ?_
  obtain ⟨aA, cA, hvA, -⟩ := hrow
  refine TL_know (i := 4) rfl row_slm fun hrow => ?_
  obtain ⟨aG, cG, hvG, -⟩ := hrow
  obtain ⟨vA, vas, FA, vG, vgs, FG⟩ := x
  dsimp only at hvA hvG ⊢
  subst hvA hvG
  repeat(first|refine QV QP ?_|refine QZ ?_|refine qs rfl rfl rfl rfl rfl rfl ?_|((try refine qg rfl rfl rfl ?_);first|refine QV QP ?_|refine QV QeT ?_|refine QV QeF ?_|refine QV QL ?_))
  refine TL_new rfl fun g4 => ?_
  conv=>arg 8;simp only[zA,zB,zC,zD,zE,zF,zG,zH,zI,rowS,ret,id_eq]
  refine TL_storeB (i := 7) rfl rfl rfl rfl rfl rfl ?_
  conv=>arg 8;simp only[zA,zB,zC,zD,zE,zF,zG,zH,zI,rowS,ret,id_eq]
  by_cases c1 : e = 0
  · by_cases c2 : fl.length = 0
    · rw [decide_eq_true c1, decide_eq_true c2]
      repeat(first|refine QV QP ?_|refine QZ ?_|refine qs rfl rfl rfl rfl rfl rfl ?_|((try refine qg rfl rfl rfl ?_);first|refine QV QP ?_|refine QV (rr_loadB (i := 7) TyC.ty rfl rfl rfl) ?_|refine QV QeT ?_|refine QV QeF ?_|refine QV QL ?_))
      refine TL_storeB (i := 1) rfl rfl rfl rfl rfl rfl ?_
      conv=>arg 8;simp only[zA,zB,zC,zD,zE,zF,zG,zH,zI,rowS,ret,id_eq]
      repeat(first|refine QV QP ?_|refine QZ ?_|refine qs rfl rfl rfl rfl rfl rfl ?_|((try refine qg rfl rfl rfl ?_);first|refine QV QP ?_|refine QV QeT ?_|refine QV QeF ?_|refine QV QL ?_))
      exact E_retc2 (i := 1) rfl rfl rfl rfl rfl fun w hm => hm.meets (S := ⟨fun (_ : TabX) => True, fun x => .tuple #[.agg #[x.vA, x.vG], .bool true], fun x => [rowO 86 1 x.vA A.length x.vas, elsO (sliceS actS) x.FA (x.vas.map fun v => [v]) A, rowO 25 1 x.vG G.length x.vgs, elsO (sliceS intS) x.FG (x.vgs.map fun v => [v]) G]⟩) ⟨.slice aA A.length cA, vas, FA, .slice aG G.length cG, vgs, FG⟩ trivial [2, 3, 4, 5] (by decide) rfl
    · rw [decide_eq_true c1, decide_eq_false c2]
      repeat(first|refine QV QP ?_|refine QZ ?_|refine qs rfl rfl rfl rfl rfl rfl ?_|((try refine qg rfl rfl rfl ?_);first|refine QV QP ?_|refine QV (rr_loadB (i := 7) TyC.ty rfl rfl rfl) ?_|refine QV QeT ?_|refine QV QeF ?_|refine QV QL ?_))
      refine TL_storeB (i := 1) rfl rfl rfl rfl rfl rfl ?_
      conv=>arg 8;simp only[zA,zB,zC,zD,zE,zF,zG,zH,zI,rowS,ret,id_eq]
      repeat(first|refine QV QP ?_|refine QZ ?_|refine qs rfl rfl rfl rfl rfl rfl ?_|((try refine qg rfl rfl rfl ?_);first|refine QV QP ?_|refine QV QeT ?_|refine QV QeF ?_|refine QV QL ?_))
      exact E_retc2 (i := 1) rfl rfl rfl rfl rfl fun w hm => hm.meets (S := ⟨fun (_ : TabX) => True, fun x => .tuple #[.agg #[x.vA, x.vG], .bool false], fun x => [rowO 86 1 x.vA A.length x.vas, elsO (sliceS actS) x.FA (x.vas.map fun v => [v]) A, rowO 25 1 x.vG G.length x.vgs, elsO (sliceS intS) x.FG (x.vgs.map fun v => [v]) G]⟩) ⟨.slice aA A.length cA, vas, FA, .slice aG G.length cG, vgs, FG⟩ trivial [2, 3, 4, 5] (by decide) rfl
  · rw [decide_eq_false c1, Bool.false_and]
    repeat(first|refine QV QP ?_|refine QZ ?_|refine qs rfl rfl rfl rfl rfl rfl ?_|((try refine qg rfl rfl rfl ?_);first|refine QV QP ?_|refine QV (rr_loadB (i := 7) TyC.ty rfl rfl rfl) ?_|refine QV (rr_eql (b := false) rfl rfl (decide_eq_false c1)) ?_|refine QV QeT ?_|refine QV QeF ?_|refine QV QL ?_))
    refine TL_storeB (i := 1) rfl rfl rfl rfl rfl rfl ?_
    conv=>arg 8;simp only[zA,zB,zC,zD,zE,zF,zG,zH,zI,rowS,ret,id_eq]
    repeat(first|refine QV QP ?_|refine QZ ?_|refine qs rfl rfl rfl rfl rfl rfl ?_|((try refine qg rfl rfl rfl ?_);first|refine QV QP ?_|refine QV QeT ?_|refine QV QeF ?_|refine QV QL ?_))
    exact E_retc2 (i := 1) rfl rfl rfl rfl rfl fun w hm => hm.meets (S := ⟨fun (_ : TabX) => True, fun x => .tuple #[.agg #[x.vA, x.vG], .bool false], fun x => [rowO 86 1 x.vA A.length x.vas, elsO (sliceS actS) x.FA (x.vas.map fun v => [v]) A, rowO 25 1 x.vG G.length x.vgs, elsO (sliceS intS) x.FG (x.vgs.map fun v => [v]) G]⟩) ⟨.slice aA A.length cA, vas, FA, .slice aG G.length cG, vgs, FG⟩ trivial [2, 3, 4, 5] (by decide) rfl
end Go.Proofs.Ytlojfbnimmdehaa.eng

/- LrM -/
namespace Go.Proofs.Ytlojfbnimmdehaa.itemL
open gramL treeL countL factsL smallL
open llL (colAt)
section
variable {l : List gramL.Prod} {T N : Nat} {lk : Int → Int → Nat} {Nx : List (List Int)} {S : List (List Item)} {w : List Int}
variable {E R M : List Bool} {F W : List Nat}
theorem drop_cons {α : Type} {b : List α} {d : Nat} {y : α} {r : List α} (h : b.drop d = y :: r) : b[d]? = some y ∧ b.drop (d + 1) = r ∧ d < b.length := by
  have hd : d < b.length := by
    rcases Nat.lt_or_ge d b.length with h' | h'
    · exact h'
    · rw [List.drop_of_length_le h'] at h; cases h
  rw [List.drop_eq_getElem_cons hd] at h
  simp only [List.cons.injEq] at h
  exact ⟨by rw [List.getElem?_eq_getElem hd, h.1], h.2, hd⟩
/-- what is asked of the table and the word -/
structure LrH (l : List gramL.Prod) (T N : Nat) (lk : Int → Int → Nat) (Nx : List (List Int)) (S : List (List Item)) (w : List Int) (E : List Bool) (F W : List Nat) (R M : List Bool) : Prop where
  wide : ∀ q ∈ l, q.2.length ≤ 8
  few : l.length ≤ 40
  terms : T ≤ 30
  nons : 0 < N
  syms : SymsOk N l
  term : ∀ q ∈ l, ∀ x ∈ q.2, x.1 = 1 → 0 ≤ x.2 ∧ x.2 < (T : Int)
  all : AllI l T N lk S.length Nx S
  calm : CalmI l T Nx S
  facts : ClosedF l E F W R M
  looks : ∀ p d : Int, 0 ≤ p → p ≤ (l.length : Int) → 0 ≤ d → lk p d = beginF E F ((bodyI l p).drop (d.toNat + 1)) (2 ^ 62)
  word : ∀ x ∈ w, 0 ≤ x ∧ x < (T : Int)
theorem state_right (hI : AllI l T N lk S.length Nx S) {q : Nat} (hq : q < S.length) : ∀ it ∈ S.getD q [], RightI l T it := by
  have hget : S.getD q [] = S[q] := by rw [List.getD_eq_getElem?_getD, List.getElem?_eq_getElem hq]; rfl
  rw [hget]; exact hI.ss.right _ (List.getElem_mem hq)
theorem col_at (h : LrH l T N lk Nx S w E F W R M) {a : Nat} {v : Int} {r : List Int} (hd : w.drop a = v :: r) : a < w.length ∧ (colAt T w a : Int) = v ∧ 0 ≤ v ∧ v < (T : Int) := by
  have ha : a < w.length := by
    rcases Nat.lt_or_ge a w.length with h' | h'
    · exact h'
    · rw [List.drop_of_length_le h'] at hd; cases hd
  rw [List.drop_eq_getElem_cons ha] at hd
  simp only [List.cons.injEq] at hd
  have hv := h.word w[a] (List.getElem_mem ha)
  unfold colAt
  rw [if_pos ha, List.getD_eq_getElem?_getD, List.getElem?_eq_getElem ha, Option.getD_some]
  rw [hd.1] at hv ⊢
  exact ⟨ha, by omega, hv⟩
theorem col_le (h : LrH l T N lk Nx S w E F W R M) (a : Nat) : colAt T w a ≤ T := by
  unfold colAt
  split
  · rename_i ha
    rw [List.getD_eq_getElem?_getD, List.getElem?_eq_getElem ha, Option.getD_some]
    have := h.word w[a] (List.getElem_mem ha)
    omega
  · exact Nat.le_refl _
mutual
theorem sim_tree (h : LrH l T N lk Nx S w E F W R M) : ∀ {t : Tree} {x : Sym} {a q : Nat} {σ : List Nat} {it : Item}, Right l t x a → x.1 = 2 → q < S.length → it ∈ S.getD q [] → nextS l it = some x → (looksI lk it).testBit (colAt T w (a + leaves t)) = true → a + leaves t ≤ w.length → (∃ r, w.drop a = yieldT l t ++ r) →
    ∃ s, s < S.length ∧ advI it ∈ S.getD s [] ∧ LRun l T Nx S w (q :: σ) a (upX l t) (s :: q :: σ) (a + leaves t)
  | .mk p k kids, x, a, q, σ, it, hr, hx, hq, hit, hn, hlk, ha, hy => by
    have hp : 0 ≤ p := by
      rcases right_kind hr with ⟨h1, _⟩ | ⟨_, h1⟩
      · omega
      · exact h1
    obtain ⟨_, h2, h3, h4, h5⟩ := right_x hr hp
    subst h4
    have hlv : leaves (.mk p 0 kids) = leavess kids := by rw [leaves, if_neg (by omega)]
    rw [hlv] at hlk ha ⊢
    rw [yieldT_eq] at hy
    obtain ⟨i, rfl⟩ := Int.eq_ofNat_of_zero_le hp
    obtain ⟨xk, xn⟩ := x
    have hx : xk = 2 := hx
    subst hx
    have h3 : (prodAt l (i : Int)).1 = xn := h3
    have hcT := col_le h (a + leavess kids)
    have hmem : (((i : Int), 0, (colAt T w (a + leavess kids) : Int)) : Item) ∈ S.getD q [] := shut_mem h.all hq hit ⟨xn, i, _, hn, by omega, h3, hcT, hlk, rfl⟩
    have hbody : bodyI l (i : Int) = (prodAt l (i : Int)).2 := by unfold bodyI; rw [if_neg (by omega)]
    obtain ⟨τ, s, k2, k3, k4, k5⟩ := sim_kids h (q := q) (σ := σ) (it := ((i : Int), 0, (colAt T w (a + leavess kids) : Int))) h5 hq hmem (by show (bodyI l (i : Int)).drop 0 = _; rw [hbody]; rfl) rfl ha hy
    have hmemL : prodAt l (i : Int) ∈ l := prodAt_mem hp h2
    have hN := h.syms _ hmemL
    obtain ⟨tq, g1, g2, g3⟩ := goto_ok h.all h.wide h.few h.terms hq (n := xn) (by rw [← h3]; exact ⟨hN.1, hN.2.1⟩) hit hn
    refine ⟨tq, g1, g3, ?_⟩
    have hlen := rights_len h5
    rw [upX_node (by omega) hlen]
    have hred : actAt l T Nx S s (colAt T w (a + leavess kids)) = (2, (i : Int)) := by
      refine reduce_act h.calm k2 hcT k3 ?_ ?_ rfl
      · show (i : Int) < _; omega
      · show (0 : Int) + _ = ((prodAt l (i : Int)).2.length : Int); omega
    exact k5.app (.reduce hred k4 (by rw [h3]; exact g2) .nil)
theorem sim_kids (h : LrH l T N lk Nx S w E F W R M) : ∀ {ks : List Tree} {b : List Sym} {a q : Nat} {σ : List Nat} {it : Item}, Rights l ks b a → q < S.length → it ∈ S.getD q [] → (bodyI l it.1).drop it.2.1.toNat = b → it.2.2 = (colAt T w (a + leavess ks) : Int) → a + leavess ks ≤ w.length → (∃ r, w.drop a = yields l ks b ++ r) →
    ∃ (τ : List Nat) (s : Nat), s < S.length ∧ ((it.1, it.2.1 + (b.length : Int), it.2.2) : Item) ∈ S.getD s [] ∧ (s :: τ).drop b.length = q :: σ ∧ LRun l T Nx S w (q :: σ) a (ks.flatMap (upX l)) (s :: τ) (a + leavess ks)
  | [], [], a, q, σ, it, hr, hq, hit, hb, hc, ha, hy => by
    refine ⟨σ, q, hq, ?_, rfl, .nil⟩
    have e : ((it.1, it.2.1 + (([] : List Sym).length : Int), it.2.2) : Item) = it := by
      obtain ⟨i1, i2, i3⟩ := it
      simp
    rw [e]; exact hit
  | [], _ :: _, a, q, σ, it, hr, hq, hit, hb, hc, ha, hy => by cases hr
  | .mk p k kids :: r, [], a, q, σ, it, hr, hq, hit, hb, hc, ha, hy => by cases hr
  | .mk p k kids :: r, y :: b, a, q, σ, it, hr, hq, hit, hb, hc, ha, hy => by
    rw [Rights] at hr
    obtain ⟨hr1, hr2⟩ := hr
    obtain ⟨b1, b2, b3⟩ := drop_cons hb
    have hR := state_right h.all hq it hit
    have hn : nextS l it = some y := b1
    rw [leavess] at hc ha
    have hadv : (advI it).2.1.toNat = it.2.1.toNat + 1 := by
      show (it.2.1 + 1).toNat = _
      have := hR.2.2.1
      omega
    have hb' : (bodyI l (advI it).1).drop (advI it).2.1.toNat = b := by rw [hadv]; exact b2
    have hitem : (((advI it).1, (advI it).2.1 + (b.length : Int), (advI it).2.2) : Item) = (it.1, it.2.1 + ((y :: b).length : Int), it.2.2) := by
      show (it.1, it.2.1 + 1 + (b.length : Int), it.2.2) = _
      rw [List.length_cons]
      have : it.2.1 + 1 + (b.length : Int) = it.2.1 + ((b.length + 1 : Nat) : Int) := by omega
      rw [this]
    have hdrop : ∀ {ρ : List Nat} {s : Nat}, ρ.drop b.length = s :: q :: σ → ρ.drop (y :: b).length = q :: σ := fun {ρ s} hd => by
      rw [List.length_cons, Nat.add_comm, ← List.drop_drop]
      rw [Nat.add_comm] at *
      have : ρ.drop (b.length + 1) = (ρ.drop b.length).drop 1 := by rw [List.drop_drop]
      first
        | (rw [List.drop_drop]; rw [Nat.add_comm 1 b.length]; rw [this, hd]; rfl)
        | (rw [List.drop_drop, this, hd]; rfl)
    rw [yields_X] at hy
    rw [List.flatMap_cons, leavess]
    rcases right_kind hr1 with ⟨hy1, rfl, rfl⟩ | ⟨hy1, hp⟩
    · have hlf : leaves (.mk (-1) k []) = 1 := by rw [leaves, if_pos (by decide)]
      rw [hlf] at hc ha hr2 ⊢
      have hk : k = (a : Int) := by
        rw [Right] at hr1
        rcases hr1 with ⟨_, _, h3, _⟩ | ⟨_, h3, _⟩
        · exact h3
        · omega
      subst hk
      have hyX : yieldX l (.mk (-1) (a : Int) []) y = [y.2] := by unfold yieldX; rw [if_pos (by show (-1 : Int) < 0; decide)]
      rw [hyX] at hy
      obtain ⟨rr, hy⟩ := hy
      rw [List.append_assoc, List.singleton_append] at hy
      obtain ⟨c1, c2, c3, c4⟩ := col_at h hy
      obtain ⟨yk, yn⟩ := y
      have hy1 : yk = 1 := hy1
      subst hy1
      obtain ⟨t, rfl⟩ := Int.eq_ofNat_of_zero_le c3
      have c2 : ((colAt T w a : Nat) : Int) = (t : Int) := c2
      have c2 : colAt T w a = t := by omega
      obtain ⟨s, s1, s2, s3⟩ := shift_act h.all h.wide h.few h.terms h.calm hq (by omega : t < T) hit hn
      have hd1 : w.drop (a + 1) = yields l r b ++ rr := by
        rw [← List.drop_drop, hy]; rfl
      obtain ⟨τ, s', g1, g2, g3, g4⟩ := sim_kids h (q := s) (σ := q :: σ) (it := advI it) hr2 s1 s3 hb' (by show it.2.2 = _; rw [hc]; congr 2; omega) (by omega) ⟨rr, hd1⟩
      rw [hitem] at g2
      refine ⟨τ, s', g1, g2, hdrop g3, ?_⟩
      rw [show a + (1 + leavess r) = a + 1 + leavess r by omega, upX_leaf]
      exact .shift c1 (by rw [c2]; exact s2) g4
    · have hy2 : y.1 = 2 := by
        rcases body_syms h.syms h.nons (p := it.1) y (List.mem_of_getElem? b1) with h' | h'
        · exact absurd h' hy1
        · exact h'.1
      have hyX : yieldX l (.mk p k kids) y = yieldT l (.mk p k kids) := by unfold yieldX; rw [if_neg (by show ¬ p < 0; omega)]
      rw [hyX] at hy
      obtain ⟨rr, hy⟩ := hy
      rw [List.append_assoc] at hy
      have hbs : ∀ x ∈ b, x.1 = 1 ∨ x.1 = 2 := fun x hx => by
        rcases body_syms h.syms h.nons (p := it.1) x (by rw [← b2] at hx; exact List.mem_of_mem_drop hx) with h' | h'
        · exact .inl h'
        · exact .inr h'.1
      have hyl : (yieldT l (.mk p k kids)).length = leaves (.mk p k kids) := by rw [← hyX]; exact yieldX_len hr1
      have hd1 : w.drop (a + leaves (.mk p k kids)) = yields l r b ++ rr := by
        rw [← List.drop_drop, hy, ← hyl, List.drop_left]
      have hlk := looks_has (w := w) (u := a + leaves (.mk p k kids)) h.facts h.syms h.looks h.terms h.word hR b2 hbs hr2 ⟨rr, hd1⟩ (by omega) (by rw [hc]; congr 2; omega)
      obtain ⟨s, s1, s3, s4⟩ := sim_tree h (σ := σ) hr1 hy2 hq hit hn hlk (by omega) ⟨_, hy⟩
      obtain ⟨τ, s', g1, g2, g3, g4⟩ := sim_kids h (q := s) (σ := q :: σ) (it := advI it) hr2 s1 s3 hb' (by show it.2.2 = _; rw [hc]; congr 2; omega) (by omega) ⟨rr, hd1⟩
      rw [hitem] at g2
      refine ⟨τ, s', g1, g2, hdrop g3, ?_⟩
      rw [show a + (leaves (.mk p k kids) + leavess r) = a + leaves (.mk p k kids) + leavess r by omega]
      exact s4.app g4
end
/-- each tree of the word is built, and accepted -/
theorem tree_runs (h : LrH l T N lk Nx S w E F W R M) {t : Tree} (ht : Right l t (2, 0) 0) (hy : yieldT l t = w) : ∃ s ρ, LRun l T Nx S w [0] 0 (upX l t) (s :: ρ) w.length ∧ actAt l T Nx S s (colAt T w w.length) = (3, 0) := by
  have hp : 0 ≤ t.prod := by
    obtain ⟨p, k, kids⟩ := t
    rcases right_kind ht with ⟨h1, _⟩ | ⟨_, h1⟩
    · cases h1
    · exact h1
  have hl : leaves t = w.length := by
    have := yieldX_len ht
    unfold yieldX at this
    rw [if_neg (by omega), hy] at this
    exact this.symm
  have hcol : colAt T w w.length = T := by unfold colAt; rw [if_neg (Nat.lt_irrefl _)]
  have h0 := (List.getElem?_eq_some_iff.1 h.all.start).1
  have hget : S.getD 0 [] = startI l T lk := by rw [List.getD_eq_getElem?_getD, h.all.start]; rfl
  have hst := start_right (l := l) (T := T) h.few h.terms
  have hit : (((l.length : Int), 0, (T : Int)) : Item) ∈ S.getD 0 [] := by
    rw [hget]; exact (closed_mem (lk := lk) h.wide h.few h.terms hst).2 (.base (List.mem_singleton.2 rfl))
  have hbody : bodyI l (l.length : Int) = [(2, 0)] := by unfold bodyI; rw [if_pos rfl]
  have hn : nextS l ((l.length : Int), 0, (T : Int)) = some (2, 0) := by
    show (bodyI l (l.length : Int))[0]? = _
    rw [hbody]; rfl
  obtain ⟨s, s1, s2, s3⟩ := sim_tree h (σ := []) ht rfl h0 hit hn (by
    rw [Nat.zero_add, hl]
    have hR := state_right h.all h0 _ hit
    refine (looks_bit (by have := col_le h w.length; have := h.terms; omega) hR.2.2.2.2.1).2 (.inr ⟨?_, by show (T : Int) = _; rw [hcol]⟩)
    rw [h.looks _ _ hR.1 hR.2.1 hR.2.2.1]
    show (beginF E F ((bodyI l (l.length : Int)).drop 1) (2 ^ 62)).testBit 62 = true
    rw [hbody]
    show (0 ||| 2 ^ 62 : Nat).testBit 62 = true
    decide) (by omega) ⟨[], by rw [hy]; simp⟩
  rw [Nat.zero_add, hl] at s3
  refine ⟨s, [0], s3, ?_⟩
  rw [hcol]
  exact accept_act h.calm s1 s2
end
end Go.Proofs.Ytlojfbnimmdehaa.itemL

/- LrN -/
namespace Go.Proofs.Ytlojfbnimmdehaa.itemL
open gramL treeL countL factsL smallL derL
open llL (colAt)
section
variable {l : List gramL.Prod} {T N : Nat} {lk : Int → Int → Nat} {Nx : List (List Int)} {S : List (List Item)}
/-- a stack: states, the last one first, and the trees between them -/
inductive Stk (l : List gramL.Prod) (T N : Nat) (lk : Int → Int → Nat) (S : List (List Item)) : List Nat → List (Sym × Tree) → Nat → Prop
  | start : Stk l T N lk S [0] [] 0
  | push {q s : Nat} {σ : List Nat} {ts : List (Sym × Tree)} {a : Nat} {x : Sym} {t : Tree} (h : Stk l T N lk S (q :: σ) ts a) (hs : s < S.length) (hx : S.getD s [] = stepI l T lk (S.getD q []) x) (hne : stepI l T lk (S.getD q []) x ≠ []) (ht : Right l t x a) : Stk l T N lk S (s :: q :: σ) ((x, t) :: ts) (a + leaves t)
/-- what they yield, and tell -/
def yieldK (l : List gramL.Prod) (ts : List (Sym × Tree)) : List Int := ts.reverse.flatMap fun x => yieldX l x.2 x.1
def upK (l : List gramL.Prod) (ts : List (Sym × Tree)) : List Sym := ts.reverse.flatMap fun x => upX l x.2
theorem yieldK_cons (x : Sym) (t : Tree) (ts : List (Sym × Tree)) : yieldK l ((x, t) :: ts) = yieldK l ts ++ yieldX l t x := by unfold yieldK; simp
theorem upK_cons (x : Sym) (t : Tree) (ts : List (Sym × Tree)) : upK l ((x, t) :: ts) = upK l ts ++ upX l t := by unfold upK; simp
theorem Stk.ne {σ : List Nat} {ts : List (Sym × Tree)} {a : Nat} (h : Stk l T N lk S σ ts a) : ∃ q ρ, σ = q :: ρ := by cases h <;> exact ⟨_, _, rfl⟩
theorem Stk.len {σ : List Nat} {ts : List (Sym × Tree)} {a : Nat} (h : Stk l T N lk S σ ts a) : σ.length = ts.length + 1 := by
  induction h with
  | start => rfl
  | push _ _ _ _ _ ih => rw [List.length_cons, ih, List.length_cons]
theorem Rights_app : ∀ {ks ks' : List Tree} {b b' : List Sym} {a : Nat}, Rights l ks b a → Rights l ks' b' (a + leavess ks) → Rights l (ks ++ ks') (b ++ b') a
  | [], _, [], _, _, _, h => h
  | [], _, _ :: _, _, _, h, _ => by rw [Rights] at h; exact h.elim
  | _ :: _, _, [], _, _, h, _ => by rw [Rights] at h; exact h.elim
  | k :: r, _, y :: b, _, a, h, h' => by
    rw [Rights] at h
    rw [List.cons_append, List.cons_append, Rights]
    refine ⟨h.1, Rights_app h.2 ?_⟩
    rw [leavess] at h'
    rw [Nat.add_assoc]; exact h'
theorem leavess_app : ∀ (ks ks' : List Tree), leavess (ks ++ ks') = leavess ks + leavess ks'
  | [], ks' => by simp [leavess]
  | k :: r, ks' => by rw [List.cons_append, leavess, leavess, leavess_app r, Nat.add_assoc]
theorem yields_map : ∀ (us : List (Sym × Tree)), yields l (us.map (·.2)) (us.map (·.1)) = us.flatMap fun x => yieldX l x.2 x.1
  | [] => rfl
  | (x, t) :: r => by rw [List.map_cons, List.map_cons, yields_X, yields_map r, List.flatMap_cons]
section
variable (hI : AllI l T N lk S.length Nx S) (hw : ∀ q ∈ l, q.2.length ≤ 8) (hl : l.length ≤ 40) (hT : T ≤ 30)
include hI hw hl hT
omit hw hl hT in
theorem stk_lt {q : Nat} {σ : List Nat} {ts : List (Sym × Tree)} {a : Nat} (h : Stk l T N lk S (q :: σ) ts a) : q < S.length := by
  cases h with
  | start => exact (List.getElem?_eq_some_iff.1 hI.start).1
  | push _ hs _ _ _ => exact hs
omit hw hl hT in
theorem s0_get : S.getD 0 [] = startI l T lk := by rw [List.getD_eq_getElem?_getD, hI.start]; rfl
omit hI in
/-- what stands in a state: come to over a symbol, or come up there -/
theorem step_item {s : List Item} (hs : ∀ it ∈ s, RightI l T it) {x : Sym} {it : Item} (h : it ∈ stepI l T lk s x) : (∃ it' ∈ s, nextS l it' = some x ∧ it = advI it') ∨ ∃ it2 ∈ stepI l T lk s x, ExpI l T lk it2 it := by
  have hm := (closed_mem (lk := lk) hw hl hT (over_right (x := x) hs) (x := it)).1 h
  cases hm with
  | base hb =>
    obtain ⟨it', h1, h2, h3⟩ := mem_over.1 hb
    exact .inl ⟨it', h1, h2, h3⟩
  | step h1 h2 => exact .inr ⟨_, (closed_mem (lk := lk) hw hl hT (over_right hs)).2 h1, h2⟩
omit hI hw hl hT in
theorem exp_dot {it2 it : Item} (h : ExpI l T lk it2 it) : it.2.1 = 0 ∧ it.1 < (l.length : Int) ∧ 0 ≤ it.1 := by
  obtain ⟨_, i, k, _, h2, _, _, _, rfl⟩ := h
  exact ⟨rfl, by show (i : Int) < _; omega, by show (0 : Int) ≤ i; omega⟩
/-- one symbol back -/
theorem stk_back {q : Nat} {σ : List Nat} {ts : List (Sym × Tree)} {a : Nat} (h : Stk l T N lk S (q :: σ) ts a) {it : Item} (hit : it ∈ S.getD q []) (hd : it.2.1 ≠ 0) :
    ∃ (q' : Nat) (σ' : List Nat) (x : Sym) (t : Tree) (ts' : List (Sym × Tree)) (a' : Nat) (it' : Item), σ = q' :: σ' ∧ ts = (x, t) :: ts' ∧ Stk l T N lk S (q' :: σ') ts' a' ∧ Right l t x a' ∧ a = a' + leaves t ∧ it' ∈ S.getD q' [] ∧ nextS l it' = some x ∧ it = advI it' := by
  cases h with
  | start =>
    exfalso
    rw [s0_get hI] at hit
    have hm := (closed_mem (lk := lk) hw hl hT (start_right hl hT) (x := it)).1 hit
    cases hm with
    | base hb => rw [List.mem_singleton.1 hb] at hd; exact hd rfl
    | step h1 h2 => exact hd (exp_dot h2).1
  | push h hs hx hne ht =>
    have hq := stk_lt hI h
    rw [hx] at hit
    rcases step_item hw hl hT (state_right hI hq) hit with ⟨it', h1, h2, h3⟩ | ⟨it2, h1, h2⟩
    · exact ⟨_, _, _, _, _, _, it', rfl, rfl, h, ht, rfl, h1, h2, h3⟩
    · exact absurd (exp_dot h2).1 hd
/-- as far back as the dot is -/
theorem stk_backs : ∀ (d : Nat) {q : Nat} {σ : List Nat} {ts : List (Sym × Tree)} {a : Nat}, Stk l T N lk S (q :: σ) ts a → ∀ {it : Item}, it ∈ S.getD q [] → it.2.1 = (d : Int) →
    ∃ (q' : Nat) (σ' : List Nat) (us ts' : List (Sym × Tree)) (a' : Nat), (q :: σ).drop d = q' :: σ' ∧ ts = us ++ ts' ∧ us.length = d ∧ Stk l T N lk S (q' :: σ') ts' a' ∧ Rights l (us.reverse.map (·.2)) ((bodyI l it.1).take d) a' ∧ us.reverse.map (·.1) = (bodyI l it.1).take d ∧ a = a' + leavess (us.reverse.map (·.2)) ∧ ((it.1, 0, it.2.2) : Item) ∈ S.getD q' []
  | 0, q, σ, ts, a, h, it, hit, hd => by
    refine ⟨q, σ, [], ts, a, rfl, rfl, rfl, h, ?_, rfl, rfl, ?_⟩
    · show Rights l [] [] a
      rw [Rights]; trivial
    · obtain ⟨p, d, k⟩ := it
      dsimp only at hd
      subst hd
      exact hit
  | d + 1, q, σ, ts, a, h, it, hit, hd => by
    obtain ⟨q1, σ1, x, t, ts1, a1, it1, rfl, rfl, h1, ht, rfl, hit1, hn, rfl⟩ := stk_back hI hw hl hT h hit (by omega)
    have hd1 : it1.2.1 = (d : Int) := by have : (advI it1).2.1 = it1.2.1 + 1 := rfl; omega
    obtain ⟨q', σ', us, ts', a', e1, rfl, e3, e4, e5, e6, rfl, e8⟩ := stk_backs d h1 hit1 hd1
    have hb : (bodyI l it1.1).take (d + 1) = (bodyI l it1.1).take d ++ [x] := by
      unfold nextS at hn
      rw [hd1, Int.toNat_natCast] at hn
      obtain ⟨h2, h3⟩ := List.getElem?_eq_some_iff.1 hn
      rw [List.take_succ_eq_append_getElem h2, h3]
    refine ⟨q', σ', (x, t) :: us, ts', a', ?_, rfl, by rw [List.length_cons, e3], e4, ?_, ?_, ?_, e8⟩
    · rw [List.drop_succ_cons]; exact e1
    · show Rights l (((x, t) :: us).reverse.map (·.2)) ((bodyI l it1.1).take (d + 1)) a'
      rw [hb, List.reverse_cons, List.map_append]
      refine Rights_app e5 ?_
      show Rights l [t] [x] _
      rw [Rights, Rights]
      exact ⟨ht, trivial⟩
    · show ((x, t) :: us).reverse.map (·.1) = (bodyI l it1.1).take (d + 1)
      rw [hb, List.reverse_cons, List.map_append, e6]
      rfl
    · rw [List.reverse_cons, List.map_append, leavess_app]
      show _ = a' + (_ + leavess [t])
      rw [leavess, leavess]
      omega
/-- reduced: a tree more in place of its kids -/
theorem stk_reduce {q tq r : Nat} {σ ρ : List Nat} {ts : List (Sym × Tree)} {a : Nat} (h : Stk l T N lk S (q :: σ) ts a) {p k : Int} (h0 : 0 ≤ p) (h1 : p < (l.length : Int)) (hit : ((p, ((prodAt l p).2.length : Int), k) : Item) ∈ S.getD q []) (hd : (q :: σ).drop (prodAt l p).2.length = r :: ρ) (htq : tq < S.length) (hx : S.getD tq [] = stepI l T lk (S.getD r []) (2, (prodAt l p).1)) (hne : stepI l T lk (S.getD r []) (2, (prodAt l p).1) ≠ []) :
    ∃ ts2, Stk l T N lk S (tq :: r :: ρ) ts2 a ∧ yieldK l ts2 = yieldK l ts ∧ upK l ts2 = upK l ts ++ [(4, p)] := by
  obtain ⟨q', σ', us, ts', a', e1, rfl, e3, e4, e5, e6, rfl, e8⟩ := stk_backs hI hw hl hT _ h hit rfl
  rw [hd] at e1
  obtain ⟨rfl, rfl⟩ := List.cons.inj e1
  have hb : bodyI l p = (prodAt l p).2 := by unfold bodyI; rw [if_neg (by omega)]
  have hb2 : (bodyI l p).take (prodAt l p).2.length = (prodAt l p).2 := by rw [hb]; exact List.take_length
  dsimp only at e5 e6
  rw [hb2] at e5 e6
  have hle := rights_len e5
  have hR : Right l (.mk p 0 (us.reverse.map (·.2))) (2, (prodAt l p).1) a' := by
    rw [Right]
    exact .inr ⟨fun h => absurd (show (2 : Int) = 1 from h) (by decide), h0, h1, rfl, rfl, e5⟩
  have hlv : leaves (.mk p 0 (us.reverse.map (·.2))) = leavess (us.reverse.map (·.2)) := by rw [leaves, if_neg (by omega)]
  have hst := Stk.push e4 htq hx hne hR
  rw [hlv] at hst
  refine ⟨_, hst, ?_, ?_⟩
  · rw [yieldK_cons]
    have hy : yieldK l (us ++ ts') = yieldK l ts' ++ us.reverse.flatMap fun x => yieldX l x.2 x.1 := by unfold yieldK; simp
    rw [hy]
    congr 1
    have hX : yieldX l (.mk p 0 (us.reverse.map (·.2))) (2, (prodAt l p).1) = yields l (us.reverse.map (·.2)) (prodAt l p).2 := by
      unfold yieldX
      rw [if_neg (by show ¬ p < 0; omega)]
      exact yieldT_eq ..
    rw [hX, ← e6]
    exact yields_map _
  · rw [upK_cons]
    have hy : upK l (us ++ ts') = upK l ts' ++ us.reverse.flatMap fun x => upX l x.2 := by unfold upK; simp
    rw [hy, upX_node h0 hle, List.append_assoc]
    congr 2
    rw [List.flatMap_map]
end
end
end Go.Proofs.Ytlojfbnimmdehaa.itemL

/- ClimbL -/
namespace Go.Proofs.Ytlojfbnimmdehaa.climbL
open gramL treeL countL factsL derL llL
inductive TD where
  | sym (x : Sym)
  | close (p : Int)
/-- the ends that are next go -/
def closesF : List TD → List Sym → Nat → List TD × List Sym × Nat × Bool
  | [], out, a => ([], out, a, true)
  | .sym x :: r, out, a => (.sym x :: r, out, a, true)
  | .close p :: r, out, a => if a + 1 ≤ 2000 then closesF r (out ++ [(3, p)]) (a + 1) else (r, out ++ [(3, p)], a + 1, false)
def opened (l : List gramL.Prod) (p : Int) (r : List TD) : List TD := (prodAt l p).2.map .sym ++ .close p :: r
def downF (l : List gramL.Prod) (nx : Int → Int) : Nat → List TD → List Sym → Nat → List TD × List Sym × Nat × Int
  | 0, st, out, a => (st, out, a, 14)
  | f + 1, st, out, a =>
    if (closesF st out a).2.2.2 = false then ((closesF st out a).1, (closesF st out a).2.1, (closesF st out a).2.2.1, 14) else
    match (closesF st out a).1 with
    | .sym x :: r =>
      if x.1 = 1 then ((closesF st out a).1, (closesF st out a).2.1, (closesF st out a).2.2.1, 0)
      else if nx x.2 < 0 then ((closesF st out a).1, (closesF st out a).2.1, (closesF st out a).2.2.1, 13)
      else if (closesF st out a).2.2.1 + 1 ≤ 2000 ∧ (opened l (nx x.2) r).length ≤ 60 then downF l nx f (opened l (nx x.2) r) ((closesF st out a).2.1 ++ [(1, nx x.2)]) ((closesF st out a).2.2.1 + 1)
      else (opened l (nx x.2) r, (closesF st out a).2.1 ++ [(1, nx x.2)], (closesF st out a).2.2.1 + 1, 14)
    | _ => ((closesF st out a).1, (closesF st out a).2.1, (closesF st out a).2.2.1, 0)
/-- one token: what goes wrong, what is ahead then, what is told -/
def pushF (l : List gramL.Prod) (nx : Int → Int) (st : List TD) (seen : Nat) (t : Int) : Int × List TD × List Sym :=
  match downF l nx 2001 st [] 0 with
  | (st1, out1, a1, e) =>
    if e ≠ 0 then (e, [], []) else
    match st1 with
    | .sym x :: r => if x.2 ≠ t then (13, [], []) else if a1 + 1 ≤ 2000 ∧ (closesF r (out1 ++ [(2, (seen : Int))]) (a1 + 1)).2.2.2 = true then (0, (closesF r (out1 ++ [(2, (seen : Int))]) (a1 + 1)).1, (closesF r (out1 ++ [(2, (seen : Int))]) (a1 + 1)).2.1) else (14, [], [])
    | _ => (13, [], [])
def endF (l : List gramL.Prod) (nx : Int → Int) (st : List TD) : Int × List Sym :=
  match downF l nx 2001 st [] 0 with
  | (st1, out1, _, e) => if e ≠ 0 then (e, []) else match st1 with | [] => (0, out1) | _ => (13, [])
def runF (l : List gramL.Prod) (nx : Int → Nat → Int) (T : Nat) : List Int → List TD → Nat → List Sym → List Sym × Nat × Int
  | [], st, a, out => (out ++ (endF l (fun n => nx n T) st).2, a, (endF l (fun n => nx n T) st).1)
  | t :: r, st, a, out =>
    if (pushF l (fun n => nx n t.toNat) st a t).1 ≠ 0 then (out, a, (pushF l (fun n => nx n t.toNat) st a t).1)
    else runF l nx T r (pushF l (fun n => nx n t.toNat) st a t).2.1 (a + 1) (out ++ (pushF l (fun n => nx n t.toNat) st a t).2.2)

/-! ### what is still to come: events, a word -/
inductive Rem (l : List gramL.Prod) (C : Int → Nat → Int → Prop) : List TD → Nat → List Sym → List Int → Prop
  | nil {u : Nat} : Rem l C [] u [] []
  | term {x : Sym} {st : List TD} {u : Nat} {E : List Sym} {w : List Int} (hx : x.1 = 1) (h : Rem l C st (u + 1) E w) : Rem l C (.sym x :: st) u ((2, (u : Int)) :: E) (x.2 :: w)
  | close {p : Int} {st : List TD} {u : Nat} {E : List Sym} {w : List Int} (h : Rem l C st u E w) : Rem l C (.close p :: st) u ((3, p) :: E) w
  | opn {x : Sym} {p : Int} {st : List TD} {u : Nat} {E : List Sym} {w : List Int} (hx : x.1 ≠ 1) (h0 : 0 ≤ p) (h1 : p < (l.length : Int)) (h2 : (prodAt l p).1 = x.2) (hc : C x.2 u p) (h : Rem l C (opened l p st) u E w) : Rem l C (.sym x :: st) u ((1, p) :: E) w
section
variable {l : List gramL.Prod} {C : Int → Nat → Int → Prop}
theorem closes_det : ∀ {st : List TD} {out : List Sym} {a u : Nat} {E : List Sym} {w : List Int}, Rem l C st u E w → ∃ E1 E2, E = E1 ++ E2 ∧ (closesF st out a).2.1 = out ++ E1 ∧ Rem l C (closesF st out a).1 u E2 w
  | [], out, a, u, E, w, h => ⟨[], E, rfl, by simp [closesF], h⟩
  | .sym x :: r, out, a, u, E, w, h => ⟨[], E, rfl, by simp [closesF], h⟩
  | .close p :: r, out, a, u, E, w, h => by
    cases h with
    | close h =>
      unfold closesF
      split
      · obtain ⟨E1, E2, h1, h2, h3⟩ := closes_det (out := out ++ [(3, p)]) (a := a + 1) h
        exact ⟨(3, p) :: E1, E2, by rw [h1]; rfl, by rw [h2]; simp, h3⟩
      · exact ⟨[(3, p)], _, rfl, rfl, h⟩
/-- what is next behind the ends -/
theorem closes_top : ∀ {st : List TD} {out : List Sym} {a : Nat}, (closesF st out a).2.2.2 = true → (closesF st out a).1 = [] ∨ ∃ x r, (closesF st out a).1 = .sym x :: r
  | [], out, a, _ => .inl rfl
  | .sym x :: r, out, a, _ => .inr ⟨x, r, rfl⟩
  | .close p :: r, out, a, h => by
    unfold closesF at h ⊢
    split
    · rename_i c; rw [if_pos c] at h; exact closes_top h
    · rename_i c; rw [if_neg c] at h; cases h
/-- the steps of down, as cases -/
theorem down_cases {nx : Int → Int} {f : Nat} {st : List TD} {out : List Sym} {a : Nat} {R : List TD × List Sym × Nat × Int} (h : downF l nx (f + 1) st out a = R) :
    ((closesF st out a).2.2.2 = false ∧ R.2.2.2 = 14) ∨ ((closesF st out a).2.2.2 = true ∧
      (((closesF st out a).1 = [] ∧ R = ([], (closesF st out a).2.1, (closesF st out a).2.2.1, 0)) ∨
       ∃ x r, (closesF st out a).1 = .sym x :: r ∧ ((x.1 = 1 ∧ R = (.sym x :: r, (closesF st out a).2.1, (closesF st out a).2.2.1, 0)) ∨ (x.1 ≠ 1 ∧ nx x.2 < 0 ∧ R.2.2.2 = 13) ∨
         (x.1 ≠ 1 ∧ 0 ≤ nx x.2 ∧ ((((closesF st out a).2.2.1 + 1 ≤ 2000 ∧ (opened l (nx x.2) r).length ≤ 60) ∧ downF l nx f (opened l (nx x.2) r) ((closesF st out a).2.1 ++ [(1, nx x.2)]) ((closesF st out a).2.2.1 + 1) = R) ∨ R.2.2.2 = 14))))) := by
  unfold downF at h
  cases hc : (closesF st out a).2.2.2 with
  | false => rw [hc, if_pos rfl] at h; subst h; exact .inl ⟨rfl, rfl⟩
  | true =>
    rw [hc, if_neg (by simp)] at h
    refine .inr ⟨rfl, ?_⟩
    rcases closes_top hc with he | ⟨x, r, he⟩
    · rw [he] at h ⊢
      exact .inl ⟨rfl, h.symm⟩
    · rw [he] at h ⊢
      dsimp only at h
      refine .inr ⟨x, r, rfl, ?_⟩
      by_cases c1 : x.1 = 1
      · rw [if_pos c1] at h; exact .inl ⟨c1, h.symm⟩
      · rw [if_neg c1] at h
        by_cases c2 : nx x.2 < 0
        · rw [if_pos c2] at h; subst h; exact .inr (.inl ⟨c1, c2, rfl⟩)
        · rw [if_neg c2] at h
          refine .inr (.inr ⟨c1, by omega, ?_⟩)
          split at h
          · rename_i c3; exact .inl ⟨c3, h⟩
          · subst h; exact .inr rfl
theorem down_top {nx : Int → Int} : ∀ {f : Nat} {st : List TD} {out : List Sym} {a : Nat} {R : List TD × List Sym × Nat × Int}, downF l nx f st out a = R → R.2.2.2 = 0 → R.1 = [] ∨ ∃ x r, R.1 = .sym x :: r ∧ x.1 = 1
  | 0, st, out, a, R, h, h0 => by subst h; cases h0
  | f + 1, st, out, a, R, h, h0 => by
    rcases down_cases h with ⟨_, e⟩ | ⟨_, ⟨_, rfl⟩ | ⟨x, r, _, ⟨c, rfl⟩ | ⟨_, _, e⟩ | ⟨_, _, ⟨_, e⟩ | e⟩⟩⟩
    · omega
    · exact .inl rfl
    · exact .inr ⟨x, r, rfl, c⟩
    · omega
    · exact down_top e h0
    · omega
/-- what is to come, in the way of the table, is told -/
theorem down_det {nx : Int → Int} {u : Nat} (hC : ∀ n p, C n u p → nx n = p) : ∀ {f : Nat} {st : List TD} {out : List Sym} {a : Nat} {R : List TD × List Sym × Nat × Int}, downF l nx f st out a = R → ∀ {E w}, Rem l C st u E w → R.2.2.2 = 14 ∨ (R.2.2.2 = 0 ∧ ∃ E1 E2, E = E1 ++ E2 ∧ R.2.1 = out ++ E1 ∧ Rem l C R.1 u E2 w)
  | 0, st, out, a, R, h, E, w, hr => by subst h; exact .inl rfl
  | f + 1, st, out, a, R, h, E, w, hr => by
    obtain ⟨E1, E2, z1, z2, z3⟩ := closes_det (out := out) (a := a) hr
    rcases down_cases h with ⟨_, e⟩ | ⟨_, ⟨e1, rfl⟩ | ⟨x, r, e1, ⟨c, rfl⟩ | ⟨c0, c1, e⟩ | ⟨c0, c, ⟨_, e⟩ | e⟩⟩⟩
    · exact .inl e
    · rw [e1] at z3; exact .inr ⟨rfl, E1, E2, z1, z2, z3⟩
    · rw [e1] at z3; exact .inr ⟨rfl, E1, E2, z1, z2, z3⟩
    · rw [e1] at z3
      cases z3 with
      | term hx _ => exact absurd hx c0
      | opn hx h0 h1 h2 hc h => rw [hC _ _ hc] at c1; omega
    · rw [e1] at z3
      cases z3 with
      | term hx _ => exact absurd hx c0
      | @opn _ p _ _ E3 _ hx h0 h1 h2 hc h =>
        rw [hC _ _ hc] at e
        rcases down_det hC e h with e' | ⟨e', E4, E5, y1, y2, y3⟩
        · exact .inl e'
        · refine .inr ⟨e', E1 ++ (1, p) :: E4, E5, by rw [z1, y1]; simp, by rw [y2, z2]; simp, y3⟩
    · exact .inl e
theorem push_det {nx : Int → Int} {st : List TD} {seen : Nat} {t : Int} (hC : ∀ n p, C n seen p → nx n = p) {R : Int × List TD × List Sym} (h : pushF l nx st seen t = R) {E : List Sym} {w : List Int} (hr : Rem l C st seen E (t :: w)) : R.1 = 14 ∨ (R.1 = 0 ∧ ∃ E2, E = R.2.2 ++ E2 ∧ Rem l C R.2.1 (seen + 1) E2 w) := by
  unfold pushF at h
  cases hd : downF l nx 2001 st [] 0 with
  | mk st1 R1 =>
  obtain ⟨out1, a1, e⟩ := R1
  rw [hd] at h
  dsimp only at h
  rcases down_det hC hd hr with e1 | ⟨e1, E1, E2, y1, y2, y3⟩
  · dsimp only at e1; subst e1; rw [if_pos (by decide)] at h; subst h; exact .inl rfl
  · dsimp only at e1 y2 y3; subst e1
    rw [if_neg (by simp)] at h
    rcases down_top hd rfl with e1 | ⟨x, r, e1, e2⟩
    · dsimp only at e1; subst e1; cases y3
    · dsimp only at e1; subst e1
      dsimp only at h
      cases y3 with
      | term hx h3 =>
        rw [if_neg (by simp)] at h
        split at h
        · rename_i c2
          subst h
          obtain ⟨E3, E4, z1, z2, z3⟩ := closes_det (out := out1 ++ [(2, (seen : Int))]) (a := a1 + 1) h3
          refine .inr ⟨rfl, E4, ?_, z3⟩
          dsimp only
          rw [y1, z2, y2, z1]; simp
        · subst h; exact .inl rfl
      | opn hx => exact absurd e2 hx
theorem end_det {nx : Int → Int} {st : List TD} {u : Nat} (hC : ∀ n p, C n u p → nx n = p) {R : Int × List Sym} (h : endF l nx st = R) {E : List Sym} (hr : Rem l C st u E []) : R.1 = 14 ∨ (R.1 = 0 ∧ R.2 = E) := by
  unfold endF at h
  cases hd : downF l nx 2001 st [] 0 with
  | mk st1 R1 =>
  obtain ⟨out1, a1, e⟩ := R1
  rw [hd] at h
  dsimp only at h
  rcases down_det hC hd hr with e1 | ⟨e1, E1, E2, y1, y2, y3⟩
  · dsimp only at e1; subst e1; rw [if_pos (by decide)] at h; subst h; exact .inl rfl
  · dsimp only at e1 y2 y3; subst e1
    rw [if_neg (by simp)] at h
    rcases down_top hd rfl with e1 | ⟨x, r, e1, e2⟩
    · dsimp only at e1; subst e1
      dsimp only at h
      subst h
      cases y3
      exact .inr ⟨rfl, by dsimp only; rw [y1, y2]; simp⟩
    · dsimp only at e1; subst e1
      cases y3 with
      | opn hx => exact absurd e2 hx
end
end Go.Proofs.Ytlojfbnimmdehaa.climbL

/- Opens -/
namespace Go.Proofs.Ytlojfbnimmdehaa.derL
open gramL treeL countL factsL
def partO (o : Sym → Nat → Nat → Nat) (x : Sym) (frm : Nat) (A : Nat → Bool) : Nat → Nat → Bool
  | 0, _ => false
  | k + 1, b => partO o x frm A k b || (A (frm + k) && decide (frm + k ≤ b) && decide (0 < o x (frm + k) b))
def anyO (p : Nat → Bool) (frm : Nat) : Nat → Bool
  | 0 => false
  | k + 1 => anyO p frm k || p (frm + k)
def opGo (o : Sym → Nat → Nat → Nat) (O : Nat → Nat → Bool) (n frm : Nat) : List Sym → (Nat → Bool) → Bool
  | [], A => A n
  | x :: r, A => if A n = true then true else if x.1 = 2 ∧ anyO (fun a => A a && O x.2.toNat a) frm (n + 1 - frm) = true then true else opGo o O n frm r (partO o x frm A (n + 1 - frm))
def opensF (o : Sym → Nat → Nat → Nat) (O : Nat → Nat → Bool) (M : List Bool) (n frm : Nat) (l : List Sym) : Bool := if allF M l true = true then opGo o O n frm l (fun b => decide (b = frm)) else false
def mixO (o : Sym → Nat → Nat → Nat) (x : Sym) (frm : Nat) (A : Nat → Bool) (k j b : Nat) : Bool := if b < j then partO o x frm A (k + 1) b else partO o x frm A k b
section
variable {o : Sym → Nat → Nat → Nat} {x : Sym} {frm : Nat} {A : Nat → Bool}
theorem partO_none {k : Nat} (h : A (frm + k) = false) : partO o x frm A (k + 1) = partO o x frm A k := by
  funext b; rw [partO, h]; simp
theorem mixO_0 (k : Nat) : mixO o x frm A k (frm + k) = partO o x frm A k := by
  funext b
  unfold mixO
  split
  · rw [partO, decide_eq_false (by omega : ¬ frm + k ≤ b)]; simp
  · rfl
theorem mixO_at (k j : Nat) : mixO o x frm A k j j = partO o x frm A k j := by simp [mixO]
theorem mixO_step {k j : Nat} (h : A (frm + k) = true) (hj : frm + k ≤ j) (b : Nat) : mixO o x frm A k (j + 1) b = if b = j then (partO o x frm A k j || decide (0 < o x (frm + k) j)) else mixO o x frm A k j b := by
  unfold mixO
  by_cases c : b = j
  · subst c; rw [if_pos (by omega), if_pos rfl, partO, h, decide_eq_true hj]; simp
  · rw [if_neg c]
    by_cases c2 : b < j
    · rw [if_pos (by omega), if_pos c2]
    · rw [if_neg (by omega), if_neg c2]
theorem mixO_end {k j b : Nat} (h : b < j) : mixO o x frm A k j b = partO o x frm A (k + 1) b := by unfold mixO; rw [if_pos h]
theorem partO_iff {b : Nat} : ∀ {k : Nat}, partO o x frm A k b = true ↔ ∃ i, i < k ∧ A (frm + i) = true ∧ frm + i ≤ b ∧ 0 < o x (frm + i) b
  | 0 => by simp [partO]
  | k + 1 => by
    rw [partO, Bool.or_eq_true, partO_iff, Bool.and_eq_true, Bool.and_eq_true, decide_eq_true_iff, decide_eq_true_iff]
    constructor
    · rintro (⟨i, h1, h2⟩ | ⟨⟨h1, h2⟩, h3⟩)
      · exact ⟨i, by omega, h2⟩
      · exact ⟨k, by omega, h1, h2, h3⟩
    · rintro ⟨i, h1, h2, h3, h4⟩
      by_cases e : i = k
      · subst e; exact .inr ⟨⟨h2, h3⟩, h4⟩
      · exact .inl ⟨i, by omega, h2, h3, h4⟩
theorem anyO_iff {p : Nat → Bool} : ∀ {k : Nat}, anyO p frm k = true ↔ ∃ i, i < k ∧ p (frm + i) = true
  | 0 => by simp [anyO]
  | k + 1 => by
    rw [anyO, Bool.or_eq_true, anyO_iff]
    constructor
    · rintro (⟨i, h1, h2⟩ | h1)
      · exact ⟨i, by omega, h2⟩
      · exact ⟨k, by omega, h1⟩
    · rintro ⟨i, h1, h2⟩
      by_cases e : i = k
      · subst e; exact .inr h2
      · exact .inl ⟨i, by omega, h2⟩
end
section
variable {w : List Int} {l : List gramL.Prod} {n : Nat} {c : Chart} {O : Nat → Nat → Bool}
theorem made_all : ∀ (b : List Sym), (∀ x ∈ b, ∃ ws, Der l x ws) → ∃ ws, Ders l b ws
  | [], _ => ⟨[], .nil⟩
  | x :: r, h => by
    obtain ⟨u, h1⟩ := h x (by simp)
    obtain ⟨s, h2⟩ := made_all r fun y hy => h y (by simp [hy])
    exact ⟨u ++ s, .cons h1 h2⟩
theorem cut_drop {a b : Nat} (h : a ≤ b) : cut w a b ++ w.drop b = w.drop a := by
  unfold cut
  have e3 : w.drop b = (w.drop a).drop (b - a) := by rw [List.drop_drop, show a + (b - a) = b by omega]
  rw [e3, List.take_append_drop]
theorem opGo_sound (hc : Lfp w l n c) (hs : SymsOk n l) (hO : ∀ (k : Nat) a, O k a = true → a ≤ w.length → ∃ v, Der l (2, (k : Int)) (w.drop a ++ v)) {frm : Nat} (hf : frm ≤ w.length) : ∀ (body : List Sym) (A : Nat → Bool) (pre : List Sym), (∀ x ∈ body, (x.1 = 1 ∨ (x.1 = 2 ∧ 0 ≤ x.2 ∧ x.2 < (n : Int))) ∧ ∃ ws, Der l x ws) → (∀ b, frm ≤ b → b ≤ w.length → A b = true → Ders l pre (cut w frm b)) → opGo (oneF c w) O w.length frm body A = true → ∃ v, Ders l (pre ++ body) (w.drop frm ++ v)
  | [], A, pre, _, hA, h => by
    have := hA w.length hf (Nat.le_refl _) h
    rw [cut_end rfl] at this
    exact ⟨[], by rw [List.append_nil, List.append_nil]; exact this⟩
  | x :: r, A, pre, hx, hA, h => by
    rw [opGo] at h
    split at h
    · rename_i h1
      have h2 := hA w.length hf (Nat.le_refl _) h1
      rw [cut_end rfl] at h2
      obtain ⟨ws, h3⟩ := made_all (x :: r) fun y hy => (hx y hy).2
      exact ⟨ws, h2.app h3⟩
    · split at h
      · rename_i h1
        obtain ⟨h1, h2⟩ := h1
        obtain ⟨i, h3, h4⟩ := anyO_iff.1 h2
        rw [Bool.and_eq_true] at h4
        have hk := ((hx x (by simp)).1.resolve_left (by omega)).2
        obtain ⟨v, h5⟩ := hO _ _ h4.2 (by omega)
        obtain ⟨x1, x2⟩ := x
        dsimp only at h1 hk h5
        subst h1
        rw [Int.toNat_of_nonneg hk.1] at h5
        obtain ⟨ws, h6⟩ := made_all r fun y hy => (hx y (by simp [hy])).2
        refine ⟨v ++ ws, ?_⟩
        have h7 := (hA (frm + i) (by omega) (by omega) h4.1).app (Ders.cons h5 h6)
        rw [List.append_assoc (w.drop (frm + i)), ← List.append_assoc (cut w frm (frm + i)), cut_drop (by omega)] at h7
        exact h7
      · obtain ⟨v, h1⟩ := opGo_sound hc hs hO hf r _ (pre ++ [x]) (fun y hy => hx y (by simp [hy])) (fun b hb1 hb2 hb => by
          obtain ⟨i, h3, h4, h5, h6⟩ := partO_iff.1 hb
          rw [← cut_app (by omega : frm ≤ frm + i) h5]
          exact (hA _ (by omega) (by omega) h4).app (ders_one (der_of_one hc hs (hx x (by simp)).1 h5 hb2 h6))) h
        exact ⟨v, by rw [List.append_assoc] at h1; exact h1⟩
theorem opensF_sound {M : List Bool} (hM : ∀ i : Nat, M.getD i false = true → ∃ ws, Der l (2, (i : Int)) ws) (hc : Lfp w l n c) (hs : SymsOk n l) (hO : ∀ (k : Nat) a, O k a = true → a ≤ w.length → ∃ v, Der l (2, (k : Int)) (w.drop a ++ v)) {frm : Nat} (hf : frm ≤ w.length) {body : List Sym} (hx : ∀ x ∈ body, x.1 = 1 ∨ (x.1 = 2 ∧ 0 ≤ x.2 ∧ x.2 < (n : Int))) (h : opensF (oneF c w) O M w.length frm body = true) : ∃ v, Ders l body (w.drop frm ++ v) := by
  unfold opensF at h
  split at h
  · rename_i hm
    refine opGo_sound hc hs hO hf body _ [] (fun x hb => ⟨hx x hb, ?_⟩) (fun b _ _ hb => ?_) h
    · unfold allF at hm
      have := List.all_eq_true.1 hm x hb
      rcases hx x hb with c1 | ⟨c1, c2, _⟩
      · exact ⟨_, .term c1⟩
      · rw [if_neg (by omega), if_pos c1] at this
        obtain ⟨ws, hw⟩ := hM _ this
        obtain ⟨x1, x2⟩ := x
        dsimp only at c1 c2 hw
        subst c1
        rw [Int.toNat_of_nonneg c2] at hw
        exact ⟨ws, hw⟩
    · have : b = frm := by simpa using hb
      subst this
      rw [cut_self]; exact .nil
  · cases h
mutual
theorem open_of_der {M : List Bool} {E R : List Bool} {F W : List Nat} (hC : ClosedF l E F W R M) (hc : Lfp w l n c) (hs : SymsOk n l) (hcl : ∀ p ∈ l, ∀ a, a ≤ w.length → opensF (oneF c w) O M w.length a p.2 = true → O p.1.toNat a = true) : ∀ {x : Sym} {ws : List Int}, Der l x ws → x.1 ≠ 1 → ∀ {a : Nat} {v : List Int}, a ≤ w.length → ws = w.drop a ++ v → O x.2.toNat a = true
  | _, _, .term h, h0, _, _, _, _ => absurd h h0
  | x, ws, .non (p := p) h1 hp hx hd, _, a, v, ha, hw => by
    rw [← hx]
    refine hcl p hp a ha ?_
    unfold opensF
    rw [if_pos (makes_ders hC hd)]
    exact go_of_ders hC hc hs hcl hd (fun y hy => ((hs p hp).2.2 y hy).imp id fun h => h.1) (Nat.le_refl _) ha (by simp) hw
theorem go_of_ders {M : List Bool} {E R : List Bool} {F W : List Nat} (hC : ClosedF l E F W R M) (hc : Lfp w l n c) (hs : SymsOk n l) (hcl : ∀ p ∈ l, ∀ a, a ≤ w.length → opensF (oneF c w) O M w.length a p.2 = true → O p.1.toNat a = true) : ∀ {b : List Sym} {ws : List Int}, Ders l b ws → (∀ y ∈ b, y.1 = 1 ∨ y.1 = 2) → ∀ {frm a : Nat} {v : List Int} {A : Nat → Bool}, frm ≤ a → a ≤ w.length → A a = true → ws = w.drop a ++ v → opGo (oneF c w) O w.length frm b A = true
  | [], _, .nil, _, frm, a, v, A, h1, h2, h3, h4 => by
    have := congrArg List.length h4
    rw [List.length_append, List.length_drop, List.length_nil] at this
    obtain rfl : a = w.length := by omega
    exact h3
  | y :: b, _, .cons (a := u) (b := s) k1 k2, hy, frm, a, v, A, h1, h2, h3, h4 => by
    rw [opGo]
    by_cases c1 : A w.length = true
    · rw [if_pos c1]
    · rw [if_neg c1]
      by_cases c2 : y.1 = 2 ∧ anyO (fun a => A a && O y.2.toNat a) frm (w.length + 1 - frm) = true
      · rw [if_pos c2]
      · rw [if_neg c2]
        by_cases c3 : u.length ≤ w.length - a
        · have e1 : w.drop a = u ++ (w.drop a).drop u.length := by
            have h5 : (w.drop a).take u.length = u := by
              have := congrArg (List.take u.length) h4
              rw [List.take_left, List.take_append_of_le_length (by rw [List.length_drop]; exact c3)] at this
              exact this.symm
            conv => lhs; rw [← List.take_append_drop u.length (w.drop a), h5]
          have e2 : s = w.drop (a + u.length) ++ v := by
            rw [e1, List.append_assoc] at h4
            rw [← List.drop_drop]
            exact List.append_cancel_left h4
          have h6 := one_of_der hc hs k1 (hy y (by simp)) h2 ⟨_, e1⟩
          refine go_of_ders hC hc hs hcl k2 (fun z hz => hy z (by simp [hz])) (by omega : frm ≤ a + u.length) (by omega) (partO_iff.2 ⟨a - frm, by omega, ?_, ?_, ?_⟩) e2
          · rw [show frm + (a - frm) = a by omega]; exact h3
          · omega
          · rw [show frm + (a - frm) = a by omega]; exact h6
        · exfalso
          by_cases c4 : y.1 = 1
          · have hu := der_term k1 c4
            have : u.length = 1 := by rw [hu]; rfl
            have : a = w.length := by omega
            subst this
            exact c1 h3
          · have e1 : u = w.drop a ++ u.drop (w.length - a) := by
              have h5 : u.take (w.length - a) = w.drop a := by
                have := congrArg (List.take (w.length - a)) h4
                rw [List.take_append_of_le_length (by omega), List.take_left' (by rw [List.length_drop])] at this
                exact this
              conv => lhs; rw [← List.take_append_drop (w.length - a) u, h5]
            have h5 := open_of_der hC hc hs hcl k1 c4 h2 e1
            refine c2 ⟨(hy y (by simp)).resolve_left c4, anyO_iff.2 ⟨a - frm, by omega, ?_⟩⟩
            rw [show frm + (a - frm) = a by omega, h3, h5]; rfl
end
end
end Go.Proofs.Ytlojfbnimmdehaa.derL

/- BeginL -/
namespace Go.Proofs.Ytlojfbnimmdehaa.derL
open gramL treeL countL factsL eng
def setB (O : Nat → Nat → Bool) (h a : Nat) : Nat → Nat → Bool := fun i j => if i = h ∧ j = a then true else O i j
def fal (N m : Nat) (O : Nat → Nat → Bool) : Nat := sumN (fun i => sumN (fun j => if O i j = true then 0 else 1) m) N
def SoundO (l : List gramL.Prod) (w : List Int) (O : Nat → Nat → Bool) : Prop := ∀ (k : Nat) a, O k a = true → a ≤ w.length → ∃ v, Der l (2, (k : Int)) (w.drop a ++ v)
theorem sumN_lt {f f' : Nat → Nat} : ∀ {k i : Nat}, i < k → (∀ j, j < k → f j ≤ f' j) → f i < f' i → sumN f k < sumN f' k
  | k + 1, i, hi, h, hl => by
    rw [sumN, sumN]
    by_cases e : i = k
    · subst e
      have := sumN_mono (f := f) (f' := f') i fun j hj => h j (by omega)
      omega
    · have := sumN_lt (f := f) (f' := f') (k := k) (i := i) (by omega) (fun j hj => h j (by omega)) hl
      have := h k (by omega)
      omega
theorem fal_set {N m h a : Nat} {O : Nat → Nat → Bool} (hh : h < N) (ha : a < m) (ho : O h a = false) : fal N m (setB O h a) < fal N m O := by
  have hle : ∀ i j, (if setB O h a i j = true then 0 else 1) ≤ (if O i j = true then 0 else 1) := fun i j => by
    unfold setB
    by_cases e : i = h ∧ j = a
    · rw [if_pos e, if_pos rfl]; exact Nat.zero_le _
    · rw [if_neg e]; exact Nat.le_refl _
  unfold fal
  refine sumN_lt hh (fun i _ => sumN_mono m fun j _ => hle i j) (sumN_lt ha (fun j _ => hle h j) ?_)
  have e1 : setB O h a h a = true := by unfold setB; rw [if_pos ⟨rfl, rfl⟩]
  rw [e1, ho]; decide
/-- the pass: what it has come to -/
structure PassO (l : List gramL.Prod) (w : List Int) (o : Sym → Nat → Nat → Nat) (M : List Bool) (N : Nat) (O O' : Nat → Nat → Bool) (more : Bool) (i a : Nat) : Prop where
  sound : SoundO l w O'
  less : more = true → fal N (w.length + 1) O' < fal N (w.length + 1) O
  still : more = false → O' = O ∧ ∀ q a', (q < i ∨ (q = i ∧ a' < a)) → ∀ h : q < l.length, a' ≤ w.length → opensF o O M w.length a' l[q].2 = true → O l[q].1.toNat a' = true
section
variable {l : List gramL.Prod} {w : List Int} {n : Nat} {c : Chart} {M : List Bool} {O O' : Nat → Nat → Bool} {more : Bool} {i a : Nat}
theorem PassO.start (h : SoundO l w O) (o : Sym → Nat → Nat → Nat) (N : Nat) : PassO l w o M N O O false 0 0 := ⟨h, fun h => by (cases h), fun _ => ⟨rfl, fun q a' h => by omega⟩⟩
theorem PassO.next {o : Sym → Nat → Nat → Nat} {N : Nat} (h : PassO l w o M N O O' more i (w.length + 1)) : PassO l w o M N O O' more (i + 1) 0 := ⟨h.sound, h.less, fun e => ⟨(h.still e).1, fun q a' h1 h2 h3 => (h.still e).2 q a' (by omega) h2 h3⟩⟩
theorem PassO.skip {o : Sym → Nat → Nat → Nat} {N : Nat} (h : PassO l w o M N O O' more i a) (hi : i < l.length) (hn : O' l[i].1.toNat a = true ∨ opensF o O' M w.length a l[i].2 = false) : PassO l w o M N O O' more i (a + 1) := ⟨h.sound, h.less, fun e => by
  obtain ⟨rfl, h2⟩ := h.still e
  refine ⟨rfl, fun q a' h1 h3 h4 h5 => ?_⟩
  by_cases e2 : q = i ∧ a' = a
  · obtain ⟨rfl, rfl⟩ := e2
    rcases hn with hn | hn
    · exact hn
    · rw [hn] at h5; cases h5
  · exact h2 q a' (by omega) h3 h4 h5⟩
theorem PassO.set (hM : ∀ i : Nat, M.getD i false = true → ∃ ws, Der l (2, (i : Int)) ws) (hc : Lfp w l n c) (hs : SymsOk n l) {N : Nat} (h : PassO l w (oneF c w) M N O O' more i a) (hi : i < l.length) (ha : a ≤ w.length) (hN : l[i].1.toNat < N) (h0 : O' l[i].1.toNat a = false) (h1 : opensF (oneF c w) O' M w.length a l[i].2 = true) : PassO l w (oneF c w) M N O (setB O' l[i].1.toNat a) true i (a + 1) := by
  obtain ⟨s1, s2, s3⟩ := hs _ (List.getElem_mem hi)
  refine ⟨fun k b hk hb => ?_, fun _ => ?_, fun e => by cases e⟩
  · unfold setB at hk
    by_cases e : k = l[i].1.toNat ∧ b = a
    · obtain ⟨rfl, rfl⟩ := e
      obtain ⟨v, hv⟩ := opensF_sound hM hc hs h.sound ha (fun x hx => (s3 x hx)) h1
      exact ⟨v, .non (by show (2 : Int) ≠ 1; decide) (List.getElem_mem hi) (by show l[i].1 = ((l[i].1.toNat : Nat) : Int); omega) hv⟩
    · rw [if_neg e] at hk
      exact h.sound k b hk hb
  · have := fal_set (N := N) (m := w.length + 1) hN (by omega : a < w.length + 1) h0
    cases hm : more
    · obtain ⟨rfl, _⟩ := h.still hm
      exact this
    · have := h.less hm; omega
end
open Classical in
noncomputable def beginsB (g : Gram) (w : List Int) : Bool := decide (checkC g w = 0 ∧ ∃ v, Der g.prods (2, 0) (w ++ v))
open Classical in
theorem begins_iff {g : Gram} {w : List Int} : beginsB g w = true ↔ checkC g w = 0 ∧ ∃ v, Der g.prods (2, 0) (w ++ v) := by
  unfold beginsB
  rw [decide_eq_true_iff]
theorem fallsQ {n : Nat} {l : List gramL.Prod} (hf : Fine n l) (hs : SymsOk n l) : Falls (stepS l) (fun s => okR n s ∧ SoundS l s) (lackS n) :=
  ⟨fun s hs' => ⟨(fallsS hf).keep s hs'.1, roundL_sound hs l (fun _ h => h) _ hs'.2⟩, fun s hs' => (fallsS hf).dec s hs'.1⟩
theorem sound_of {g : Gram} {n : Nat} (hck : checkG g = 0) (hn : g.nons = n) : okR n (ofS n g.prods) ∧ SoundS g.prods (ofS n g.prods) := by
  have hf := fine_of hck hn
  have hs := symsOk_of hck hn
  have hz : ∀ i : Nat, (List.replicate n false).getD i false = false := fun i => by
    rw [List.getD_eq_getElem?_getD, List.getElem?_replicate]; split <;> rfl
  have h0 : SoundS g.prods ⟨List.replicate n false, (List.replicate n false).set 0 true, List.replicate n false, false⟩ :=
    ⟨fun i h => (by have h : (List.replicate n false).getD i false = true := h; rw [hz i] at h; cases h), fun i h => (by have h : (List.replicate n false).getD i false = true := h; rw [hz i] at h; cases h)⟩
  obtain ⟨s', h1, h2, h3⟩ := fix_end (fallsQ hf hs) _ ⟨List.replicate n false, (List.replicate n false).set 0 true, List.replicate n false, false⟩ ⟨⟨by simp, by simp, by simp⟩, h0⟩ (Nat.le_refl _)
  have e : ofS n g.prods = roundL g.prods ⟨s'.E, s'.R, s'.M, false⟩ := h3
  rw [e]
  exact (fallsQ hf hs).keep s' h1
/-- what the table tells at the top -/
theorem begins_of {g : Gram} {w : List Int} {n : Nat} {c : Chart} (hck : checkC g w = 0) (hn : g.nons = n) (hc : Lfp w g.prods n c) {O O' : Nat → Nat → Bool} {k : Nat} (h : PassO g.prods w (oneF c w) (ofS n g.prods).M k O O' false g.prods.length 0) : O' 0 0 = beginsB g w := by
  obtain ⟨hg, _, _⟩ := checkC_ok hck
  have hs := symsOk_of hg hn
  have hC := closed_of hg hn
  obtain ⟨rfl, hst⟩ := h.still rfl
  have e : O' 0 0 = true ↔ beginsB g w = true := by
    rw [begins_iff]
    constructor
    · intro h1
      obtain ⟨v, hv⟩ := h.sound 0 0 h1 (Nat.zero_le _)
      exact ⟨hck, v, hv⟩
    · rintro ⟨_, v, hv⟩
      have := open_of_der hC hc hs (O := O') (fun p hp a ha hop => by
        obtain ⟨q, hq, rfl⟩ := List.mem_iff_getElem.1 hp
        exact hst q a (.inl hq) hq ha hop) hv (by show (2 : Int) ≠ 1; decide) (a := 0) (v := v) (Nat.zero_le _) rfl
      exact this
  cases h1 : O' 0 0 <;> cases h2 : beginsB g w <;> simp_all
end Go.Proofs.Ytlojfbnimmdehaa.derL

/- BeginW -/
namespace Go.Proofs.Ytlojfbnimmdehaa.derL
open gramL treeL countL factsL eng
theorem checkW_take {t : Int} : ∀ {w : List Int} (k : Nat), checkW t w = 0 → checkW t (w.take k) = 0
  | [], k, _ => by simp [checkW]
  | x :: r, 0, _ => by simp [checkW]
  | x :: r, k + 1, h => by
    rw [checkW] at h
    rw [List.take_succ_cons, checkW]
    split at h; · cases h
    split at h; · cases h
    rw [if_neg (by assumption), if_neg (by assumption)]
    exact checkW_take k h
theorem checkC_W {g : Gram} {w : List Int} (h : checkC g w = 0) : checkW g.terms w = 0 := by
  unfold checkC at h
  split at h; · contradiction
  split at h; · cases h
  exact h
theorem checkC_mk {g : Gram} {w : List Int} (h1 : checkG g = 0) (h2 : w.length ≤ 20) (h3 : checkW g.terms w = 0) : checkC g w = 0 := by
  unfold checkC
  rw [if_neg (by simpa using h1), if_neg (by omega), h3]
end Go.Proofs.Ytlojfbnimmdehaa.derL

