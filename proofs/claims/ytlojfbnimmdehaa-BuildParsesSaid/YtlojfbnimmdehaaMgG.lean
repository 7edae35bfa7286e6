/- Part 7 of what BuildParses needs: CountY, CountO, ClimbF, BuildParsesW. -/
import Derived.Test.YtlojfbnimmdehaaMgF
import Derived.WalkKit
import Derived.WalkSpells
import Derived.WalkLawsBesides
import Derived.Deep.RegionLaw
import Derived.Deep.AppendLies
import Derived.Deep.QuietTactic
import Derived.BigQuiet
import Derived.Deep.DeepCutAuto
import Derived.Lib.Hide
import Derived.Test.YtlojfbnimmdehaaRows
import Derived.ProofKit
import Derived.OpenShut
import Derived.ShutString
import Derived.SizedLaws
import Derived.JoinedCond
import Derived.Deep.CondSized
import Derived.Deep.Quiet
import Derived.StillTail
import Derived.Deep.LoopGhost
import Derived.Laws.BitsLemmas
import Derived.Laws.BytesString
import Derived.Test.YtlojfbnimmdehaaProg
import Derived.Laws.StructEq
import Derived.Laws.MakeOwn
import Derived.Laws.AppendOwn
import Derived.Laws.Entries
import Derived.Maps.OwnSet
import Derived.DeepKeys4
import Derived.WideKeyEntry
import Derived.Sort.Grow
import Derived.Lib.Walk
import Derived.Deep.RegionWith
import Derived.Deep.RegionHeld
import Derived.StringKeys
import Derived.Laws.BitsAllLaws
import Derived.Shelf.SlGeneric
import Derived.Shelf.SlSortCmp.NoneTotal
import Derived.Ground.SlsfProg
/- CountY -/
namespace Go.Proofs.Ytlojfbnimmdehaa.eng
open Go.RowKit kit mix gramL treeL countL
theorem build_leaf (k : Nat) (w : World) : (Instr.build 142 #[(0, .int .i64 (-1)), (1, .int .i64 (k : Int))]).run Try.prog w = .ok (treeV (-1) (k : Int) (.slice none 0 0)) w := build_tree2 _ _ w
def trS (gc gm gn n : Nat) (t : Int) (vp vw : Value) (c : Chart) (Bd : Nat) (R : Tree × Int × Nat) : Spec (Value × (Nat → Prop)) :=
  ⟨fun _ => kit.okI64 R.1.prod ∧ kit.okI64 R.1.tok, fun x => .tuple #[treeV R.1.prod R.1.tok x.1, .int .i64 R.2.1], fun x => [blkO gc (chV t (n : Int) vp vw gm) 92, chM gm c Bd, blkO gn #[.int .i64 (R.2.2 : Int)] 3, kidsO x.2 x.1 R.1.kids]⟩
theorem trS_mk (gc gm gn n : Nat) (t : Int) (vp vw : Value) (c : Chart) (Bd : Nat) (p q : Int) (ks : List Tree) (e : Int) (k : Nat) : trS gc gm gn n t vp vw c Bd (.mk p q ks, e, k) =
  ⟨fun _ => kit.okI64 p ∧ kit.okI64 q, fun x => .tuple #[treeV p q x.1, .int .i64 e], fun x => [blkO gc (chV t (n : Int) vp vw gm) 92, chM gm c Bd, blkO gn #[.int .i64 (k : Int)] 3, kidsO x.2 x.1 ks]⟩ := rfl
section
variable {P : Program} {n : Nat} {W : Base} {fr : Fr} {L : List Own} {dst : Option Tmp} {ty : TypeId} {pos : String} {after : Array Edge} {guard : Option (Nat × Bool)} {f : FuncId} {ts : Array TypeId} {cl x1 x2 : Operand} {v1 v2 : Value}
theorem he6 {x3 x4 x5 x6 : Operand} {v3 v4 v5 v6 : Value} (hf : Enters P f) (hc : ev fr cl = some (.func (.func f) #[] #[])) (h1 : ev fr x1 = some v1) (h2 : ev fr x2 = some v2) (h3 : ev fr x3 = some v3) (h4 : ev fr x4 = some v4) (h5 : ev fr x5 = some v5) (h6 : ev fr x6 = some v6) : ∀ a w, Rep n a fr → (execOp a.eval ⟨dst, .call { callee := .value cl, args := #[x1, x2, x3, x4, x5, x6], argTypes := ts }, ty, pos, after, guard⟩).run P w = .ok (.enter f #[v1, v2, v3, v4, v5, v6]) w := fun a w hr => by
  have hf' : ∀ args w, (callFunc f args).run P w = .ok (.enter f args) w := hf
  simp [execOp, resolve, hr.ev hc, hr.ev h1, hr.ev h2, hr.ev h3, hr.ev h4, hr.ev h5, hr.ev h6, Deferred.ofValue, invoke, hf']
end
theorem okn {k : Nat} (h : k ≤ 9223372036854775807) : kit.okI64 (k : Int) := ⟨by show _ ≤ (k : Int); omega, by show (k : Int) ≤ _; omega⟩
section
variable (w0 : World) (gc gm n : Nat) (t : Int) (vp vw : Value) (word : List Int) (prods : List gramL.Prod) (c : Chart) (Bd : Nat)
attribute [local irreducible] Instr.build in
set_option maxRecDepth 100000 in
set_option maxHeartbeats 16000000 in
theorem treeC_calls (hG : SlF prodS (fun k => k < w0.heap.size) w0 vp prods) (hW : Sl w0 vw word.length (word.map (.int .i64))) (hfine : FineC n prods) (hs : SymsOk n prods) (hc : Lfp word prods n c) (hw : word.length ≤ 20) (hlen : prods.length ≤ 40) (h8 : ∀ p ∈ prods, p.2.length ≤ 8) :
    ∀ (f d : Nat) (x : Sym) (a b k gn : Nat) (w : World) (B : Base), f + d = 101 → (x.1 = 1 ∨ (x.1 = 2 ∧ 0 ≤ x.2 ∧ x.2 < (n : Int))) → kit.okI64 x.2 → a ≤ b → b ≤ word.length → k ≤ 1000 → 0 < oneF c word x a b → Old w0 B → Mem B [blkO gc (chV t (n : Int) vp vw gm) 92, chM gm c Bd, blkO gn #[.int .i64 (k : Int)] 3] w →
    Calls Try.prog 99 #[.pointer (some ⟨gc, 0, none⟩), .agg (symC x).toArray, .int .i64 (a : Int), .int .i64 (b : Int), .int .i64 (d : Int), .pointer (some ⟨gn, 0, none⟩)] w (MeetsB (trS gc gm gn n t vp vw c Bd (treeM (oneF c word) prods f x a b k)) B)
  | 0, d, (xq, xm), a, b, k, gn, w, B, hd, _, _, _, _, hk, _, _, hm => by
    rw [treeM]
    refine enterB hm (args := [.pointer (some ⟨gc, 0, none⟩), .agg (symC (xq, xm)).toArray, .int .i64 (a : Int), .int .i64 (b : Int), .int .i64 (d : Int), .pointer (some ⟨gn, 0, none⟩)]) (n := 145) Try.func99 rfl rfl rfl ?_
    clear hm
    refine T_seq (T_region (TL_box rfl rfl rfl fun g7 => TL_new rfl fun g12 => ?_))
    conv=>arg 8;simp only[zA,zB,zC,zD,zE,zF,zG,zH,zI,rowS,ret,id_eq]
    repeat(first|refine QV QP ?_|refine QZ ?_|refine qcT rfl ?_|refine qcF rfl ?_|refine E_blockX ?_|refine E_blockO rfl ?_|refine qs rfl rfl rfl rfl rfl rfl ?_|((try refine qg rfl rfl rfl ?_);first|refine QV QP ?_|refine QV (rr_load1 TyC.ty rfl (at_blk (i := 2) rfl rfl)) ?_|refine QV (rr_add64 (r := ((k + 1 : Nat) : Int)) rfl rfl (by omega) (by omega) (by omega)) ?_|refine QV QL ?_|refine QV QA ?_|refine QV (rr_nilc rfl) ?_|refine QV QlT ?_|refine QV QlF ?_|refine QV QgT ?_|refine QV QgF ?_|refine QV QeT ?_|refine QV QeF ?_|refine QV QnT ?_|refine QV QnF ?_|refine QV QaA ?_))
    refine TL_store1 (i := 2) rfl rfl rfl rfl rfl rfl ?_
    rw [show (#[.int .i64 (k : Int)] : Array Value).setIfInBounds 0 (.int .i64 ((k + 1 : Nat) : Int)) = #[.int .i64 ((k + 1 : Nat) : Int)] from rfl]
    conv=>arg 8;simp only[zA,zB,zC,zD,zE,zF,zG,zH,zI,rowS,ret,id_eq]
    by_cases c1 : 1000 < k + 1
    · rw [if_pos c1]
      repeat(first|refine QV QP ?_|refine QZ ?_|refine qcT rfl ?_|refine qcF rfl ?_|refine E_blockX ?_|refine E_blockO rfl ?_|refine qs rfl rfl rfl rfl rfl rfl ?_|((try refine qg rfl rfl rfl ?_);first|refine QV QP ?_|refine QV (rr_load1 TyC.ty rfl (at_blk (i := 2) rfl rfl)) ?_|refine QV (rr_build rfl build_tree0) ?_|refine QV QL ?_|refine QV QA ?_|refine QV (rr_nilc rfl) ?_|refine QV QlT ?_|refine QV QlF ?_|refine QV QgT ?_|refine QV QgF ?_|refine QV QeT ?_|refine QV QeF ?_|refine QV QnT ?_|refine QV QnF ?_|refine QV QaA ?_))
      refine TL_storeB (i := 4) rfl rfl rfl rfl rfl rfl ?_
      conv=>arg 8;simp only[zA,zB,zC,zD,zE,zF,zG,zH,zI,rowS,ret,id_eq]
      repeat(first|refine QV QP ?_|refine QZ ?_|refine qcT rfl ?_|refine qcF rfl ?_|refine E_blockX ?_|refine E_blockO rfl ?_|refine qs rfl rfl rfl rfl rfl rfl ?_|((try refine qg rfl rfl rfl ?_);first|refine QV QP ?_|refine QV QL ?_|refine QV QA ?_|refine QV (rr_nilc rfl) ?_|refine QV QlT ?_|refine QV QlF ?_|refine QV QgT ?_|refine QV QgF ?_|refine QV QeT ?_|refine QV QeF ?_|refine QV QnT ?_|refine QV QnF ?_|refine QV QaA ?_))
      refine E_extra (kidsO (fun _ => False) (.slice none 0 0) []) (fun k hk => hk.elim (fun h => by cases h) id) kidsO_nil ?_
      exact E_retc2 (i := 4) rfl rfl rfl rfl rfl fun w hm => hm.meetsB (S := trS gc gm gn n t vp vw c Bd (.mk 0 0 [], 2, k + 1)) (.slice none 0 0, fun _ => False) ⟨okz, okz⟩ [0, 1, 2, 5] (by decide) rfl
    · rw [if_neg c1]
      repeat(first|refine QV QP ?_|refine QZ ?_|refine qcT rfl ?_|refine qcF rfl ?_|refine E_blockX ?_|refine E_blockO rfl ?_|refine qs rfl rfl rfl rfl rfl rfl ?_|((try refine qg rfl rfl rfl ?_);first|refine QV QP ?_|refine QV (rr_load1 TyC.ty rfl (at_blk (i := 2) rfl rfl)) ?_|refine QV (rr_build rfl build_tree0) ?_|refine QV QL ?_|refine QV QA ?_|refine QV (rr_nilc rfl) ?_|refine QV QlT ?_|refine QV QlF ?_|refine QV QgT ?_|refine QV QgF ?_|refine QV QeT ?_|refine QV QeF ?_|refine QV QnT ?_|refine QV QnF ?_|refine QV QaA ?_))
      refine TL_storeB (i := 4) rfl rfl rfl rfl rfl rfl ?_
      conv=>arg 8;simp only[zA,zB,zC,zD,zE,zF,zG,zH,zI,rowS,ret,id_eq]
      repeat(first|refine QV QP ?_|refine QZ ?_|refine qcT rfl ?_|refine qcF rfl ?_|refine E_blockX ?_|refine E_blockO rfl ?_|refine qs rfl rfl rfl rfl rfl rfl ?_|((try refine qg rfl rfl rfl ?_);first|refine QV QP ?_|refine QV QL ?_|refine QV QA ?_|refine QV (rr_nilc rfl) ?_|refine QV QlT ?_|refine QV QlF ?_|refine QV QgT ?_|refine QV QgF ?_|refine QV QeT ?_|refine QV QeF ?_|refine QV QnT ?_|refine QV QnF ?_|refine QV QaA ?_))
      refine E_extra (kidsO (fun _ => False) (.slice none 0 0) []) (fun k hk => hk.elim (fun h => by cases h) id) kidsO_nil ?_
      exact E_retc2 (i := 4) rfl rfl rfl rfl rfl fun w hm => hm.meetsB (S := trS gc gm gn n t vp vw c Bd (.mk 0 0 [], 7, k + 1)) (.slice none 0 0, fun _ => False) ⟨okz, okz⟩ [0, 1, 2, 5] (by decide) rfl
  | f + 1, d, (xq, xm), a, b, k, gn, w, B, hd, hx, hx6, hab, hb, hk, h0, ho, hm => by
    have IH := treeC_calls hG hW hfine hs hc hw hlen h8 f (d + 1)
    rw [treeM]
    refine enterB hm (args := [.pointer (some ⟨gc, 0, none⟩), .agg (symC (xq, xm)).toArray, .int .i64 (a : Int), .int .i64 (b : Int), .int .i64 (d : Int), .pointer (some ⟨gn, 0, none⟩)]) (n := 145) Try.func99 rfl rfl rfl ?_
    clear hm
    refine T_seq (T_region (TL_box rfl rfl rfl fun g7 => TL_new rfl fun g12 => ?_))
    conv=>arg 8;simp only[zA,zB,zC,zD,zE,zF,zG,zH,zI,rowS,ret,id_eq]
    repeat(first|refine QV QP ?_|refine QZ ?_|refine qcT rfl ?_|refine qcF rfl ?_|refine E_blockX ?_|refine E_blockO rfl ?_|refine qs rfl rfl rfl rfl rfl rfl ?_|((try refine qg rfl rfl rfl ?_);first|refine QV QP ?_|refine QV (rr_load1 TyC.ty rfl (at_blk (i := 2) rfl rfl)) ?_|refine QV (rr_add64 (r := ((k + 1 : Nat) : Int)) rfl rfl (by omega) (by omega) (by omega)) ?_|refine QV QL ?_|refine QV QA ?_|refine QV (rr_nilc rfl) ?_|refine QV QlT ?_|refine QV QlF ?_|refine QV QgT ?_|refine QV QgF ?_|refine QV QeT ?_|refine QV QeF ?_|refine QV QnT ?_|refine QV QnF ?_|refine QV QaA ?_))
    refine TL_store1 (i := 2) rfl rfl rfl rfl rfl rfl ?_
    rw [show (#[.int .i64 (k : Int)] : Array Value).setIfInBounds 0 (.int .i64 ((k + 1 : Nat) : Int)) = #[.int .i64 ((k + 1 : Nat) : Int)] from rfl]
    conv=>arg 8;simp only[zA,zB,zC,zD,zE,zF,zG,zH,zI,rowS,ret,id_eq]
    by_cases c1 : 1000 < k + 1
    · rw [if_pos c1]
      repeat(first|refine QV QP ?_|refine QZ ?_|refine qcT rfl ?_|refine qcF rfl ?_|refine E_blockX ?_|refine E_blockO rfl ?_|refine qs rfl rfl rfl rfl rfl rfl ?_|((try refine qg rfl rfl rfl ?_);first|refine QV QP ?_|refine QV (rr_load1 TyC.ty rfl (at_blk (i := 2) rfl rfl)) ?_|refine QV (rr_build rfl build_tree0) ?_|refine QV QL ?_|refine QV QA ?_|refine QV (rr_nilc rfl) ?_|refine QV QlT ?_|refine QV QlF ?_|refine QV QgT ?_|refine QV QgF ?_|refine QV QeT ?_|refine QV QeF ?_|refine QV QnT ?_|refine QV QnF ?_|refine QV QaA ?_))
      refine TL_storeB (i := 4) rfl rfl rfl rfl rfl rfl ?_
      conv=>arg 8;simp only[zA,zB,zC,zD,zE,zF,zG,zH,zI,rowS,ret,id_eq]
      repeat(first|refine QV QP ?_|refine QZ ?_|refine qcT rfl ?_|refine qcF rfl ?_|refine E_blockX ?_|refine E_blockO rfl ?_|refine qs rfl rfl rfl rfl rfl rfl ?_|((try refine qg rfl rfl rfl ?_);first|refine QV QP ?_|refine QV QL ?_|refine QV QA ?_|refine QV (rr_nilc rfl) ?_|refine QV QlT ?_|refine QV QlF ?_|refine QV QgT ?_|refine QV QgF ?_|refine QV QeT ?_|refine QV QeF ?_|refine QV QnT ?_|refine QV QnF ?_|refine QV QaA ?_))
      refine E_extra (kidsO (fun _ => False) (.slice none 0 0) []) (fun k hk => hk.elim (fun h => by cases h) id) kidsO_nil ?_
      exact E_retc2 (i := 4) rfl rfl rfl rfl rfl fun w hm => hm.meetsB (S := trS gc gm gn n t vp vw c Bd (.mk 0 0 [], 2, k + 1)) (.slice none 0 0, fun _ => False) ⟨okz, okz⟩ [0, 1, 2, 5] (by decide) rfl
    rw [if_neg c1]
    dsimp only at hx hx6
    by_cases c2 : xq = 1
    · rw [if_pos c2]
      repeat(first|refine QV QP ?_|refine QZ ?_|refine qcT rfl ?_|refine qcF rfl ?_|refine E_blockX ?_|refine E_blockO rfl ?_|refine qs rfl rfl rfl rfl rfl rfl ?_|((try refine qg rfl rfl rfl ?_);first|refine QV QP ?_|refine QV (rr_load1 TyC.ty rfl (at_blk (i := 2) rfl rfl)) ?_|refine QV (rr_load1 TyC.ty rfl (at_blk (i := 3) rfl rfl)) ?_|refine QV (rr_build rfl (build_leaf _)) ?_|refine QV QL ?_|refine QV QA ?_|refine QV (rr_nilc rfl) ?_|refine QV QlT ?_|refine QV QlF ?_|refine QV QgT ?_|refine QV QgF ?_|refine QV QeT ?_|refine QV QeF ?_|refine QV QnT ?_|refine QV QnF ?_|refine QV QaA ?_))
      refine TL_storeB (i := 4) rfl rfl rfl rfl rfl rfl ?_
      conv=>arg 8;simp only[zA,zB,zC,zD,zE,zF,zG,zH,zI,rowS,ret,id_eq]
      repeat(first|refine QV QP ?_|refine QZ ?_|refine qcT rfl ?_|refine qcF rfl ?_|refine E_blockX ?_|refine E_blockO rfl ?_|refine qs rfl rfl rfl rfl rfl rfl ?_|((try refine qg rfl rfl rfl ?_);first|refine QV QP ?_|refine QV QL ?_|refine QV QA ?_|refine QV (rr_nilc rfl) ?_|refine QV QlT ?_|refine QV QlF ?_|refine QV QgT ?_|refine QV QgF ?_|refine QV QeT ?_|refine QV QeF ?_|refine QV QnT ?_|refine QV QnF ?_|refine QV QaA ?_))
      refine E_extra (kidsO (fun _ => False) (.slice none 0 0) []) (fun k hk => hk.elim (fun h => by cases h) id) kidsO_nil ?_
      exact E_retc2 (i := 4) rfl rfl rfl rfl rfl fun w hm => hm.meetsB (S := trS gc gm gn n t vp vw c Bd (.mk (-1) (a : Int) [], 0, k + 1)) (.slice none 0 0, fun _ => False) ⟨okm1, okn (by omega)⟩ [0, 1, 2, 5] (by decide) rfl
    rw [if_neg c2]
    have hx2 : xq = 2 ∧ 0 ≤ xm ∧ xm < (n : Int) := hx.resolve_left c2
    obtain ⟨q1, q2⟩ := one_cand hc hx2.1 hx2.2 hab hb h0
    have hCh : ∀ w', w'.heap[gc]? = some (.cells (chV t (n : Int) vp vw gm) 92 (0, 0)) → (chM gm c Bd).holds w' → Sl w' vw word.length (word.map (.int .i64)) → ChR w' gc gm t (n : Int) vp vw word c Bd := fun w' h1 h2 h3 => ⟨h1, h2, h3⟩
    have hone := fun x a b w' h => one_calls gc gm t (n : Int) vp vw word c Bd x a b w' h
    have hrow := fun vb body a b w' h hs hok => row_calls gc gm t (n : Int) vp vw vb word c Bd body a b w' h hs hok hc.le2
    have hG0 := hG
    obtain ⟨bp, cp, rfl, _, hmp, hrp⟩ := hG
    unfold maxLen at hmp
    obtain ⟨b0, off0, rfl, _, hr0⟩ := hrp (by omega)
    clear hrp
    repeat(first|refine QV QP ?_|refine QZ ?_|refine qcT rfl ?_|refine qcF rfl ?_|refine E_blockX ?_|refine E_blockO rfl ?_|refine qs rfl rfl rfl rfl rfl rfl ?_|((try refine qg rfl rfl rfl ?_);first|refine QV QP ?_|refine QV (rr_load1 TyC.ty rfl (at_blk (i := 2) rfl rfl)) ?_|refine QV (rr_load1 TyC.ty rfl (at_blk (i := 3) rfl rfl)) ?_|refine QV (rr_build rfl build_tree0) ?_|refine QV QL ?_|refine QV QA ?_|refine QV (rr_nilc rfl) ?_|refine QV QlT ?_|refine QV QlF ?_|refine QV QgT ?_|refine QV QgF ?_|refine QV QeT ?_|refine QV QeF ?_|refine QV QnT ?_|refine QV QnF ?_|refine QV QaA ?_))
    refine TL_new rfl fun g14 => ?_
    refine TL_storeB (i := 5) rfl rfl rfl rfl rfl rfl ?_
    conv=>arg 8;simp only[zA,zB,zC,zD,zE,zF,zG,zH,zI,rowS,ret,id_eq]
    repeat(first|refine QV QP ?_|refine QZ ?_|refine qcT rfl ?_|refine qcF rfl ?_|refine E_blockX ?_|refine E_blockO rfl ?_|refine qs rfl rfl rfl rfl rfl rfl ?_|((try refine qg rfl rfl rfl ?_);first|refine QV QP ?_|refine QV (rr_load1 TyC.ty rfl (at_blk (i := 0) rfl rfl)) ?_|refine QV QL ?_|refine QV QA ?_|refine QV (rr_nilc rfl) ?_|refine QV QlT ?_|refine QV QlF ?_|refine QV QgT ?_|refine QV QgF ?_|refine QV QeT ?_|refine QV QeF ?_|refine QV QnT ?_|refine QV QnF ?_|refine QV QaA ?_))
    refine T_loop (ι := Nat) (fun i => i ≤ prods.length) (fun i => [(0, .pointer (some ⟨gc, 0, none⟩)), (2, .int .i64 (a : Int)), (3, .int .i64 (b : Int)), (4, .int .i64 (d : Int)), (5, .pointer (some ⟨gn, 0, none⟩)), (7, .pointer (some ⟨g7, 0, none⟩)), (12, .pointer (some ⟨g12, 0, none⟩)), (14, .pointer (some ⟨g14, 0, none⟩)), (49, .int .i64 prods.length), (50, .int .i64 (i : Int))])
      (fun i => [blkO gc (chV t (n : Int) (.slice (some ⟨b0, off0, none⟩) prods.length cp) vw gm) 92, chM gm c Bd, blkO gn #[.int .i64 ((k + 1 : Nat) : Int)] 3, blkO g7 (symC (xq, xm)).toArray 71, blkO g12 #[.int .i64 0, .int .i64 0, .slice none 0 0] 142, blkO g14 #[.int .i64 (bestP (oneF c word) prods (xq, xm) a b i : Nat), .int .i64 0, .slice none 0 0] 142]) (fun i => prods.length - i) 0 (Nat.zero_le _) (by repeat' (first | exact True.intro | refine And.intro rfl ?_)) rfl ?_
    intro i i1
    by_cases c7 : i < prods.length
    · obtain ⟨bb, cb, y1, y2, y3⟩ := prod_at hr0 c7
      have hcd : bestP (oneF c word) prods (xq, xm) a b (i + 1) = if candB (oneF c word) prods (xq, xm) a b i = true then i else bestP (oneF c word) prods (xq, xm) a b i := rfl
      have hcf : candB (oneF c word) prods (xq, xm) a b i = (decide (prods[i].1 = xm) && decide (0 < rowF (oneF c word) prods[i].2 a b)) := by unfold candB; rw [prodAt_get c7]
      have hat : ∀ (L : List Own) (j : Nat) (v : Value), ([.int .i64 prods[i].1, .slice bb prods[i].2.length cb] : List Value)[j]? = some v → At B L ⟨b0, off0 + i * 2 + j, none⟩ v := fun L j v hj => at_old0 ho (y1 j v hj)
      have hat0 := fun L => hat L 0 _ rfl
      have hat1 := fun L => hat L 1 _ rfl
      have hfl := y3.flat (by decide)
      have hok3 := (hfine _ (List.getElem_mem c7)).2.2
      have hrw := fun (w' : World) (h : ChR w' gc gm t (n : Int) (.slice (some ⟨b0, off0, none⟩) prods.length cp) vw word c Bd) (hsl : Sl w' (.slice bb prods[i].2.length cb) prods[i].2.length (prods[i].2.flatMap symC)) => hrow (.slice bb prods[i].2.length cb) prods[i].2 a b w' h hsl hok3 hab hb hw
      clear hat y1 y3 IH q1 q2
      generalize prods[i] = pd at *
      obtain ⟨hd, body⟩ := pd
      dsimp only at *
      generalize rowF (oneF c word) body a b = rw at *
      generalize bestP (oneF c word) prods (xq, xm) a b i = bi at *
      rw [hcf] at hcd
      clear hcf hrow
      by_cases e1 : hd = xm
      · by_cases e2 : 0 < rw
        · rw [decide_eq_true e1, decide_eq_true e2, Bool.and_self, if_pos rfl] at hcd
          repeat(first|refine QV QP ?_|refine QZ ?_|refine qcT rfl ?_|refine qcF rfl ?_|refine E_blockX ?_|refine E_blockO rfl ?_|refine qs rfl rfl rfl rfl rfl rfl ?_|((try refine qg rfl rfl rfl ?_);first|refine QV QP ?_|refine QV QL ?_|refine QV QA ?_|refine QV (rr_nilc rfl) ?_|refine QV QlT ?_|refine QV QlF ?_|refine QV QgT ?_|refine QV QgF ?_|refine QV QeT ?_|refine QV QeF ?_|refine QV QnT ?_|refine QV QnF ?_|refine QV QaA ?_))
          refine T_ord ([blkO gc (chV t (n : Int) (.slice (some ⟨b0, off0, none⟩) prods.length cp) vw gm) 92, chM gm c Bd, blkO gn #[.int .i64 ((k + 1 : Nat) : Int)] 3, blkO g7 (symC (xq, xm)).toArray 71, blkO g12 #[.int .i64 0, .int .i64 0, .slice none 0 0] 142, blkO g14 #[.int .i64 (bi : Nat), .int .i64 0, .slice none 0 0] 142]) (.calm 0 (.calm 1 (.calm 2 (.calm 3 (.calm 4 (.calm 5 (.calm 6 (.calm 7 (.calm 8 (.calm 9 (.calm 10 (.calm 11 (.calm 12 (.calm 13 (.calm 14 (.calm 15 (.calm 16 (.calm 17 (.calm 18 (.calm 19 (.calm 20 (.calm 21 (.calm 22 (.calm 23 (.calm 24 (.calm 25 (.calm 26 (.calm 27 (.done))))))))))))))))))))))))))))) (fun _ h => h) (by kernel_rfl) (by kernel_rfl) (by intro c a d v w h; cases d <;> exact h) ?_
          repeat(first|((first|refine TW_plain rfl rfl ?_|refine TW_gmet rfl rfl rfl rfl ?_);first|refine QW QP ?_|refine QW (rr_load1 TyC.ty rfl (at_blk (i := 0) rfl rfl)) ?_|refine QW (rr_load1 TyC.ty rfl (at_blk (i := 3) rfl rfl)) ?_|refine QW (rr_idxc Und.eq TyC.ty rfl rfl c7) ?_|refine QW (rr_load1 TyC.ty rfl (hat0 _)) ?_|refine QW (rr_load1 TyC.ty rfl (hat1 _)) ?_|refine QW QL ?_|refine QW QA ?_|refine QW (rr_nilc rfl) ?_|refine QW QlT ?_|refine QW QlF ?_|refine QW QgT ?_|refine QW QgF ?_|refine QW QeT ?_|refine QW QeF ?_|refine QW QnT ?_|refine QW QnF ?_|refine QW QaA ?_)|refine TW_skip rfl rfl rfl rfl rfl rfl rfl ?_|refine TW_done ?_)
          refine TW_gcall rfl (he4 EntersC.en rfl rfl rfl rfl rfl) (fun w hm => hrw _ (hCh _ (hm.get (i := 0) rfl) (hm.get (i := 1) rfl) (hW.gr (ho.mem hm))) (hfl.gr (ho.mem hm))) rfl rfl rfl rfl rfl ?_
          repeat(first|((first|refine TW_plain rfl rfl ?_|refine TW_gmet rfl rfl rfl rfl ?_);first|refine QW QP ?_|refine QW QL ?_|refine QW QA ?_|refine QW (rr_nilc rfl) ?_|refine QW QlT ?_|refine QW QlF ?_|refine QW QgT ?_|refine QW QgF ?_|refine QW QeT ?_|refine QW QeF ?_|refine QW QnT ?_|refine QW QnF ?_|refine QW QaA ?_)|refine TW_skip rfl rfl rfl rfl rfl rfl rfl ?_|refine TW_done ?_)
          repeat(first|refine QV QP ?_|refine QZ ?_|refine qcT rfl ?_|refine qcF rfl ?_|refine E_blockX ?_|refine E_blockO rfl ?_|refine qs rfl rfl rfl rfl rfl rfl ?_|((try refine qg rfl rfl rfl ?_);first|refine QV QP ?_|refine QV QL ?_|refine QV QA ?_|refine QV (rr_nilc rfl) ?_|refine QV QlT ?_|refine QV QlF ?_|refine QV QgT ?_|refine QV QgF ?_|refine QV QeT ?_|refine QV QeF ?_|refine QV QnT ?_|refine QV QnF ?_|refine QV QaA ?_))
          refine TL_store1 (i := 5) rfl rfl rfl rfl rfl rfl ?_
          conv=>arg 8;simp only[zA,zB,zC,zD,zE,zF,zG,zH,zI,rowS,ret,id_eq]
          repeat(first|refine QV QP ?_|refine QZ ?_|refine qcT rfl ?_|refine qcF rfl ?_|refine E_blockX ?_|refine E_blockO rfl ?_|refine qs rfl rfl rfl rfl rfl rfl ?_|((try refine qg rfl rfl rfl ?_);first|refine QV QP ?_|refine QV QL ?_|refine QV QA ?_|refine QV (rr_nilc rfl) ?_|refine QV QlT ?_|refine QV QlF ?_|refine QV QgT ?_|refine QV QgF ?_|refine QV QeT ?_|refine QV QeF ?_|refine QV QnT ?_|refine QV QnF ?_|refine QV QaA ?_))
          exact E_round (i + 1) (by omega) (by omega) (by repeat' (first | exact True.intro | refine And.intro rfl ?_)) (by rw [hcd]; rfl)
        · rw [decide_eq_true e1, decide_eq_false e2, Bool.and_false, if_neg (by decide)] at hcd
          repeat(first|refine QV QP ?_|refine QZ ?_|refine qcT rfl ?_|refine qcF rfl ?_|refine E_blockX ?_|refine E_blockO rfl ?_|refine qs rfl rfl rfl rfl rfl rfl ?_|((try refine qg rfl rfl rfl ?_);first|refine QV QP ?_|refine QV QL ?_|refine QV QA ?_|refine QV (rr_nilc rfl) ?_|refine QV QlT ?_|refine QV QlF ?_|refine QV QgT ?_|refine QV QgF ?_|refine QV QeT ?_|refine QV QeF ?_|refine QV QnT ?_|refine QV QnF ?_|refine QV QaA ?_))
          refine T_ord ([blkO gc (chV t (n : Int) (.slice (some ⟨b0, off0, none⟩) prods.length cp) vw gm) 92, chM gm c Bd, blkO gn #[.int .i64 ((k + 1 : Nat) : Int)] 3, blkO g7 (symC (xq, xm)).toArray 71, blkO g12 #[.int .i64 0, .int .i64 0, .slice none 0 0] 142, blkO g14 #[.int .i64 (bi : Nat), .int .i64 0, .slice none 0 0] 142]) (.calm 0 (.calm 1 (.calm 2 (.calm 3 (.calm 4 (.calm 5 (.calm 6 (.calm 7 (.calm 8 (.calm 9 (.calm 10 (.calm 11 (.calm 12 (.calm 13 (.calm 14 (.calm 15 (.calm 16 (.calm 17 (.calm 18 (.calm 19 (.calm 20 (.calm 21 (.calm 22 (.calm 23 (.calm 24 (.calm 25 (.calm 26 (.calm 27 (.done))))))))))))))))))))))))))))) (fun _ h => h) (by kernel_rfl) (by kernel_rfl) (by intro c a d v w h; cases d <;> exact h) ?_
          repeat(first|((first|refine TW_plain rfl rfl ?_|refine TW_gmet rfl rfl rfl rfl ?_);first|refine QW QP ?_|refine QW (rr_load1 TyC.ty rfl (at_blk (i := 0) rfl rfl)) ?_|refine QW (rr_load1 TyC.ty rfl (at_blk (i := 3) rfl rfl)) ?_|refine QW (rr_idxc Und.eq TyC.ty rfl rfl c7) ?_|refine QW (rr_load1 TyC.ty rfl (hat0 _)) ?_|refine QW (rr_load1 TyC.ty rfl (hat1 _)) ?_|refine QW QL ?_|refine QW QA ?_|refine QW (rr_nilc rfl) ?_|refine QW QlT ?_|refine QW QlF ?_|refine QW QgT ?_|refine QW QgF ?_|refine QW QeT ?_|refine QW QeF ?_|refine QW QnT ?_|refine QW QnF ?_|refine QW QaA ?_)|refine TW_skip rfl rfl rfl rfl rfl rfl rfl ?_|refine TW_done ?_)
          refine TW_gcall rfl (he4 EntersC.en rfl rfl rfl rfl rfl) (fun w hm => hrw _ (hCh _ (hm.get (i := 0) rfl) (hm.get (i := 1) rfl) (hW.gr (ho.mem hm))) (hfl.gr (ho.mem hm))) rfl rfl rfl rfl rfl ?_
          repeat(first|((first|refine TW_plain rfl rfl ?_|refine TW_gmet rfl rfl rfl rfl ?_);first|refine QW QP ?_|refine QW QL ?_|refine QW QA ?_|refine QW (rr_nilc rfl) ?_|refine QW QlT ?_|refine QW QlF ?_|refine QW QgT ?_|refine QW QgF ?_|refine QW QeT ?_|refine QW QeF ?_|refine QW QnT ?_|refine QW QnF ?_|refine QW QaA ?_)|refine TW_skip rfl rfl rfl rfl rfl rfl rfl ?_|refine TW_done ?_)
          repeat(first|refine QV QP ?_|refine QZ ?_|refine qcT rfl ?_|refine qcF rfl ?_|refine E_blockX ?_|refine E_blockO rfl ?_|refine qs rfl rfl rfl rfl rfl rfl ?_|((try refine qg rfl rfl rfl ?_);first|refine QV QP ?_|refine QV QL ?_|refine QV QA ?_|refine QV (rr_nilc rfl) ?_|refine QV QlT ?_|refine QV QlF ?_|refine QV QgT ?_|refine QV QgF ?_|refine QV QeT ?_|refine QV QeF ?_|refine QV QnT ?_|refine QV QnF ?_|refine QV QaA ?_))
          exact E_round (i + 1) (by omega) (by omega) (by repeat' (first | exact True.intro | refine And.intro rfl ?_)) (by rw [hcd])
      · rw [decide_eq_false e1, Bool.false_and, if_neg (by decide)] at hcd
        repeat(first|refine QV QP ?_|refine QZ ?_|refine qcT rfl ?_|refine qcF rfl ?_|refine E_blockX ?_|refine E_blockO rfl ?_|refine qs rfl rfl rfl rfl rfl rfl ?_|((try refine qg rfl rfl rfl ?_);first|refine QV QP ?_|refine QV QL ?_|refine QV QA ?_|refine QV (rr_nilc rfl) ?_|refine QV QlT ?_|refine QV QlF ?_|refine QV QgT ?_|refine QV QgF ?_|refine QV QeT ?_|refine QV QeF ?_|refine QV QnT ?_|refine QV QnF ?_|refine QV QaA ?_))
        refine T_ord ([blkO gc (chV t (n : Int) (.slice (some ⟨b0, off0, none⟩) prods.length cp) vw gm) 92, chM gm c Bd, blkO gn #[.int .i64 ((k + 1 : Nat) : Int)] 3, blkO g7 (symC (xq, xm)).toArray 71, blkO g12 #[.int .i64 0, .int .i64 0, .slice none 0 0] 142, blkO g14 #[.int .i64 (bi : Nat), .int .i64 0, .slice none 0 0] 142]) (.calm 0 (.calm 1 (.calm 2 (.calm 3 (.calm 4 (.calm 5 (.calm 6 (.calm 7 (.calm 8 (.calm 9 (.calm 10 (.calm 11 (.calm 12 (.calm 13 (.calm 14 (.calm 15 (.calm 16 (.calm 17 (.calm 18 (.calm 19 (.calm 20 (.calm 21 (.calm 22 (.calm 23 (.calm 24 (.calm 25 (.calm 26 (.calm 27 (.done))))))))))))))))))))))))))))) (fun _ h => h) (by kernel_rfl) (by kernel_rfl) (by intro c a d v w h; cases d <;> exact h) ?_
        repeat(first|((first|refine TW_plain rfl rfl ?_|refine TW_gmet rfl rfl rfl rfl ?_);first|refine QW QP ?_|refine QW (rr_load1 TyC.ty rfl (at_blk (i := 0) rfl rfl)) ?_|refine QW (rr_load1 TyC.ty rfl (at_blk (i := 3) rfl rfl)) ?_|refine QW (rr_idxc Und.eq TyC.ty rfl rfl c7) ?_|refine QW (rr_load1 TyC.ty rfl (hat0 _)) ?_|refine QW (rr_load1 TyC.ty rfl (hat1 _)) ?_|refine QW QL ?_|refine QW QA ?_|refine QW (rr_nilc rfl) ?_|refine QW QlT ?_|refine QW QlF ?_|refine QW QgT ?_|refine QW QgF ?_|refine QW QeT ?_|refine QW QeF ?_|refine QW QnT ?_|refine QW QnF ?_|refine QW QaA ?_)|refine TW_skip rfl rfl rfl rfl rfl rfl rfl ?_|refine TW_done ?_)
        repeat(first|refine QV QP ?_|refine QZ ?_|refine qcT rfl ?_|refine qcF rfl ?_|refine E_blockX ?_|refine E_blockO rfl ?_|refine qs rfl rfl rfl rfl rfl rfl ?_|((try refine qg rfl rfl rfl ?_);first|refine QV QP ?_|refine QV QL ?_|refine QV QA ?_|refine QV (rr_nilc rfl) ?_|refine QV QlT ?_|refine QV QlF ?_|refine QV QgT ?_|refine QV QgF ?_|refine QV QeT ?_|refine QV QeF ?_|refine QV QnT ?_|refine QV QnF ?_|refine QV QaA ?_))
        exact E_round (i + 1) (by omega) (by omega) (by repeat' (first | exact True.intro | refine And.intro rfl ?_)) (by rw [hcd])
    · obtain rfl : i = prods.length := by omega
      obtain ⟨q3, q4⟩ := cand_iff.1 q1
      generalize bestP (oneF c word) prods (xq, xm) a b prods.length = p at *
      have hm8 := h8 _ (List.getElem_mem q2)
      have hsp := (hs _ (List.getElem_mem q2)).2.2
      have hok3 := (hfine _ (List.getElem_mem q2)).2.2
      rw [prodAt_get q2] at q3 q4
      rw [prodAt_get q2]
      obtain ⟨bb, cb, y1, y2, y3⟩ := prod_at hr0 q2
      have hat1 := fun (L : List Own) => at_old0 (W := B) (L := L) ho (y1 1 (.slice bb prods[p].2.length cb) rfl)
      have hfl := y3.flat (by decide)
      clear y1 y3 q1 hr0
      generalize prods[p] = pd at *
      obtain ⟨hd, body⟩ := pd
      dsimp only at *
      obtain ⟨bb', cb', he, hb4, hb5, hb6⟩ := hfl
      simp only [Value.slice.injEq, true_and] at he
      obtain ⟨rfl, rfl⟩ := he
      have hfl : Sl w0 (.slice bb body.length cb) body.length (body.flatMap symC) := ⟨bb, cb, rfl, hb4, hb5, hb6⟩
      unfold maxLen at hb5
      repeat(first|refine QV QP ?_|refine QZ ?_|refine qcT rfl ?_|refine qcF rfl ?_|refine E_blockX ?_|refine E_blockO rfl ?_|refine qs rfl rfl rfl rfl rfl rfl ?_|((try refine qg rfl rfl rfl ?_);first|refine QV QP ?_|refine QV QL ?_|refine QV QA ?_|refine QV (rr_nilc rfl) ?_|refine QV QlT ?_|refine QV QlF ?_|refine QV QgT ?_|refine QV QgF ?_|refine QV QeT ?_|refine QV QeF ?_|refine QV QnT ?_|refine QV QnF ?_|refine QV QaA ?_))
      refine T_ord ([blkO gc (chV t (n : Int) (.slice (some ⟨b0, off0, none⟩) prods.length cp) vw gm) 92, blkO g14 #[.int .i64 (p : Nat), .int .i64 0, .slice none 0 0] 142]) (.calm 0 (.calm 1 (.calm 2 (.calm 3 (.calm 4 (.calm 5 (.calm 6 (.calm 7 (.calm 8 (.calm 9 (.calm 10 (.done)))))))))))) (sub_pick [0, 5] (by decide) rfl) (by kernel_rfl) (by kernel_rfl) (by intro c a d v w h; cases d <;> exact h) ?_
      repeat(first|((first|refine TW_plain rfl rfl ?_|refine TW_gmet rfl rfl rfl rfl ?_);first|refine QW QP ?_|refine QW (rr_load1 TyC.ty rfl (at_blk (i := 0) rfl rfl)) ?_|refine QW (rr_load1 TyC.ty rfl (at_blk (i := 1) rfl rfl)) ?_|refine QW (rr_idxc Und.eq TyC.ty rfl rfl q2) ?_|refine QW (rr_load1 TyC.ty rfl (hat1 _)) ?_|refine QW QL ?_|refine QW QA ?_|refine QW (rr_nilc rfl) ?_|refine QW QlT ?_|refine QW QlF ?_|refine QW QgT ?_|refine QW QgF ?_|refine QW QeT ?_|refine QW QeF ?_|refine QW QnT ?_|refine QW QnF ?_|refine QW QaA ?_)|refine TW_skip rfl rfl rfl rfl rfl rfl rfl ?_|refine TW_done ?_)
      repeat(first|refine QV QP ?_|refine QZ ?_|refine qcT rfl ?_|refine qcF rfl ?_|refine E_blockX ?_|refine E_blockO rfl ?_|refine qs rfl rfl rfl rfl rfl rfl ?_|((try refine qg rfl rfl rfl ?_);first|refine QV QP ?_|refine QV QL ?_|refine QV QA ?_|refine QV (rr_nilc rfl) ?_|refine QV QlT ?_|refine QV QlF ?_|refine QV QgT ?_|refine QV QgF ?_|refine QV QeT ?_|refine QV QeF ?_|refine QV QnT ?_|refine QV QnF ?_|refine QV QaA ?_))
      refine T_nil 142 3 (T_extra (elsO treeS (fun _ => False) [] []) (fun k hk => hk.elim (fun h => by cases h) id) (fun w => els_nil) ?_)
      generalize hK : kidsM (oneF c word) (treeM (oneF c word) prods f) b body a (k + 1) = K at *
      refine T_loop (ι := Nat × Nat × Nat × Value × List (List Value) × (Nat → Prop) × List Tree) (fun (j, a', k', v, _, _, ts) => j ≤ body.length ∧ a ≤ a' ∧ a' ≤ b ∧ k' ≤ 1000 ∧ v.oneCell' = true ∧ ts.length = j ∧ 0 < rowF (oneF c word) (body.drop j) a' b ∧ K = (ts ++ (kidsM (oneF c word) (treeM (oneF c word) prods f) b (body.drop j) a' k').1, (kidsM (oneF c word) (treeM (oneF c word) prods f) b (body.drop j) a' k').2)) (fun (j, a', _, _, _, _, _) => [(0, .pointer (some ⟨gc, 0, none⟩)), (2, .int .i64 (a' : Int)), (3, .int .i64 (b : Int)), (4, .int .i64 (d : Int)), (5, .pointer (some ⟨gn, 0, none⟩)), (12, .pointer (some ⟨g12, 0, none⟩)), (14, .pointer (some ⟨g14, 0, none⟩)), (16, .slice bb body.length cb), (94, .slice bb body.length cb), (95, .int .i64 body.length), (96, .int .i64 (j : Int))])
        (fun (j, _, k', v, css, F, ts) => [blkO gc (chV t (n : Int) (.slice (some ⟨b0, off0, none⟩) prods.length cp) vw gm) 92, chM gm c Bd, blkO gn #[.int .i64 (k' : Int)] 3, blkO g7 (symC (xq, xm)).toArray 71, blkO g12 #[.int .i64 0, .int .i64 0, .slice none 0 0] 142, blkO g14 (treeV (p : Int) 0 v).cells 142, rowO 142 3 v j css.flatten, elsO treeS F css ts]) (fun (j, _, _, _, _, _, _) => body.length - j) (0, a, k + 1, .slice none 0 0, [], fun _ => False, []) ⟨Nat.zero_le _, Nat.le_refl _, hab, by omega, rfl, rfl, q4, by rw [List.drop_zero, hK]; simp⟩ (by repeat' (first | exact True.intro | refine And.intro rfl ?_)) rfl ?_
      clear hK q4
      rintro ⟨j, a', k', v, css, F, ts⟩ ⟨i1, i2, i3, i4, i5, i6, i7, i8⟩
      dsimp only at i1 i2 i3 i4 i5 i6 i7 i8 ⊢
      by_cases c7 : j < body.length
      · obtain ⟨b3, off3, rfl, hr3⟩ := hb6 (by omega)
        have hatx := fun L => at_elL (W := B) (L := L) SymS_len (fun q x hq => at_old0 ho (hr3 q x hq)) c7
        rw [List.drop_eq_getElem_cons c7] at i7 i8
        obtain ⟨m1, m2, m3, m4⟩ := row_mid i3 i7
        rw [kidsM] at i8
        have hyo := hok3 body[j] (List.getElem_mem c7)
        have hys := hsp body[j] (List.getElem_mem c7)
        have hr' := fun x hx => hok3 x (List.mem_of_mem_drop (i := j + 1) hx)
        have hsub : ∀ w', Gr w0 w' → Sl w' (subV (some ⟨b3, off3, none⟩) cb 2 (j + 1) body.length) (body.drop (j + 1)).length ((body.drop (j + 1)).flatMap symC) := fun w' hg => by
          have := sl_sub SymS_len (hfl.gr hg) (i := j + 1) (j := body.length) (by omega) (Nat.le_refl _)
          rwa [List.take_of_length_le (by simp)] at this
        clear hb6 hr3
        generalize body[j] = y at *
        obtain ⟨yq, ym⟩ := y
        have hmid : cutB (oneF c word) (yq, ym) (body.drop (j + 1)) a' b (midM (cutB (oneF c word) (yq, ym) (body.drop (j + 1)) a' b) a' (b - a')) = true := by
          unfold cutB at m3 m4 ⊢
          rw [Bool.and_eq_true, decide_eq_true_iff, decide_eq_true_iff]; exact ⟨m3, m4⟩
        generalize hMM : midM (cutB (oneF c word) (yq, ym) (body.drop (j + 1)) a' b) a' (b - a') = M at *
        have IHk := fun w B => IH (yq, ym) a' M k' gn w B (by omega) hys hyo m1 (by omega) i4 m3
        have hg3 := fun t k2 h => (treeM_ok hc hs f (yq, ym) a' M k' t k2 hys m1 (by omega) m3 h).2.2.1
        clear IH
        repeat(first|refine QV QP ?_|refine QZ ?_|refine qcT rfl ?_|refine qcF rfl ?_|refine E_blockX ?_|refine E_blockO rfl ?_|refine qs rfl rfl rfl rfl rfl rfl ?_|((try refine qg rfl rfl rfl ?_);first|refine QV QP ?_|refine QV (rr_idxc Und.eq TyC.ty rfl rfl c7) ?_|refine QV (rr_loadN TyC.ty rfl rfl (hatx _)) ?_|refine QV QL ?_|refine QV QA ?_|refine QV (rr_nilc rfl) ?_|refine QV QlT ?_|refine QV QlF ?_|refine QV QgT ?_|refine QV QgF ?_|refine QV QeT ?_|refine QV QeF ?_|refine QV QnT ?_|refine QV QnF ?_|refine QV QaA ?_))
        refine TL_new rfl fun g18 => ?_
        repeat(first|refine QV QP ?_|refine QZ ?_|refine qcT rfl ?_|refine qcF rfl ?_|refine E_blockX ?_|refine E_blockO rfl ?_|refine qs rfl rfl rfl rfl rfl rfl ?_|((try refine qg rfl rfl rfl ?_);first|refine QV QP ?_|refine QV QL ?_|refine QV QA ?_|refine QV (rr_nilc rfl) ?_|refine QV QlT ?_|refine QV QlF ?_|refine QV QgT ?_|refine QV QgF ?_|refine QV QeT ?_|refine QV QeF ?_|refine QV QnT ?_|refine QV QnF ?_|refine QV QaA ?_))
        refine TL_storeB (i := 8) rfl rfl rfl rfl rfl rfl ?_
        conv=>arg 8;simp only[zA,zB,zC,zD,zE,zF,zG,zH,zI,rowS,ret,id_eq]
        repeat(first|refine QV QP ?_|refine QZ ?_|refine qcT rfl ?_|refine qcF rfl ?_|refine E_blockX ?_|refine E_blockO rfl ?_|refine qs rfl rfl rfl rfl rfl rfl ?_|((try refine qg rfl rfl rfl ?_);first|refine QV QP ?_|refine QV QL ?_|refine QV QA ?_|refine QV (rr_nilc rfl) ?_|refine QV QlT ?_|refine QV QlF ?_|refine QV QgT ?_|refine QV QgF ?_|refine QV QeT ?_|refine QV QeF ?_|refine QV QnT ?_|refine QV QnF ?_|refine QV QaA ?_))
        refine T_loop (ι := Nat) (fun m => a' ≤ m ∧ m ≤ M ∧ midM (cutB (oneF c word) (yq, ym) (body.drop (j + 1)) a' b) m (b - m) = M) (fun m => [(0, .pointer (some ⟨gc, 0, none⟩)), (2, .int .i64 (a' : Int)), (3, .int .i64 (b : Int)), (4, .int .i64 (d : Int)), (5, .pointer (some ⟨gn, 0, none⟩)), (12, .pointer (some ⟨g12, 0, none⟩)), (14, .pointer (some ⟨g14, 0, none⟩)), (16, .slice (some ⟨b3, off3, none⟩) body.length cb), (17, .int .i64 (j : Int)), (18, .pointer (some ⟨g18, 0, none⟩)), (19, .int .i64 (m : Int)), (94, .slice (some ⟨b3, off3, none⟩) body.length cb), (95, .int .i64 body.length), (96, .int .i64 (j : Int))])
          (fun _ => [blkO gc (chV t (n : Int) (.slice (some ⟨b0, off0, none⟩) prods.length cp) vw gm) 92, chM gm c Bd, blkO gn #[.int .i64 (k' : Int)] 3, blkO g7 (symC (xq, xm)).toArray 71, blkO g12 #[.int .i64 0, .int .i64 0, .slice none 0 0] 142, blkO g14 (treeV (p : Int) 0 v).cells 142, rowO 142 3 v j css.flatten, elsO treeS F css ts, blkO g18 (symC (yq, ym)).toArray 71]) (fun m => M - m) a' ⟨Nat.le_refl _, m1, hMM⟩ (by repeat' (first | exact True.intro | refine And.intro rfl ?_)) rfl ?_
        clear hMM
        rintro m ⟨j1, j2, j3⟩
        by_cases hcut : cutB (oneF c word) (yq, ym) (body.drop (j + 1)) a' b m = true
        · have := mid_here (k := b - m) hcut
          obtain rfl : m = M := by rw [← j3]; exact this.symm
          clear this j3 hcut hmid
          repeat(first|refine QV QP ?_|refine QZ ?_|refine qcT rfl ?_|refine qcF rfl ?_|refine E_blockX ?_|refine E_blockO rfl ?_|refine qs rfl rfl rfl rfl rfl rfl ?_|((try refine qg rfl rfl rfl ?_);first|refine QV QP ?_|refine QV (rr_loadB (i := 8) TyC.ty rfl rfl rfl) ?_|refine QV QL ?_|refine QV QA ?_|refine QV (rr_nilc rfl) ?_|refine QV QlT ?_|refine QV QlF ?_|refine QV QgT ?_|refine QV QgF ?_|refine QV QeT ?_|refine QV QeF ?_|refine QV QnT ?_|refine QV QnF ?_|refine QV QaA ?_))
          refine TL_call (he4 EntersC.en rfl rfl rfl rfl rfl) (fun w hm => hone (yq, ym) a' m w (hCh _ (hm.get (i := 0) rfl) (hm.get (i := 1) rfl) (hW.gr (ho.mem hm))) hyo j1 (by omega) hw) rfl rfl rfl ?_
          intro _ _
          generalize oneF c word (yq, ym) a' m = ov at *
          conv=>arg 8;simp only[zA,zB,zC,zD,zE,zF,zG,zH,zI,rowS,ret,id_eq]
          repeat(first|refine QV QP ?_|refine QZ ?_|refine qcT rfl ?_|refine qcF rfl ?_|refine E_blockX ?_|refine E_blockO rfl ?_|refine qs rfl rfl rfl rfl rfl rfl ?_|((try refine qg rfl rfl rfl ?_);first|refine QV QP ?_|refine QV (rr_add64 (r := ((j + 1 : Nat) : Int)) rfl rfl (by omega) (by omega) (by omega)) ?_|refine QV QL ?_|refine QV QA ?_|refine QV (rr_nilc rfl) ?_|refine QV QlT ?_|refine QV QlF ?_|refine QV QgT ?_|refine QV QgF ?_|refine QV QeT ?_|refine QV QeF ?_|refine QV QnT ?_|refine QV QnF ?_|refine QV QaA ?_|refine QV (rr_slfrom Und.eq TyC.ty rfl rfl (by omega) hb4) ?_))
          refine TL_gcall (he4 EntersC.en rfl rfl rfl rfl rfl) (fun w hm => hrow _ (body.drop (j + 1)) m b w (hCh _ (hm.get (i := 0) rfl) (hm.get (i := 1) rfl) (hW.gr (ho.mem hm))) (hsub _ (ho.mem hm)) hr' (by omega) hb hw) rfl rfl rfl rfl rfl ?_
          intro _ _
          obtain ⟨rv, hrv⟩ : ∃ rv, rv = rowF (oneF c word) (body.drop (j + 1)) m b := ⟨_, rfl⟩
          have hpos : 0 < rv := by rw [hrv]; exact m4
          rw [← hrv]
          clear hrv
          generalize hR : treeM (oneF c word) prods f (yq, ym) a' m k' = R at *
          obtain ⟨⟨p', r', ks'⟩, er, k2⟩ := R
          dsimp only at i8
          simp only [trS_mk] at IHk
          conv=>arg 8;simp only[zA,zB,zC,zD,zE,zF,zG,zH,zI,rowS,ret,id_eq]
          repeat(first|refine QV QP ?_|refine QZ ?_|refine qcT rfl ?_|refine qcF rfl ?_|refine E_blockX ?_|refine E_blockO rfl ?_|refine qs rfl rfl rfl rfl rfl rfl ?_|((try refine qg rfl rfl rfl ?_);first|refine QV QP ?_|refine QV (rr_loadB (i := 8) TyC.ty rfl rfl rfl) ?_|refine QV (rr_add64 (r := ((d + 1 : Nat) : Int)) rfl rfl (by omega) (by omega) (by omega)) ?_|refine QV QL ?_|refine QV QA ?_|refine QV (rr_nilc rfl) ?_|refine QV QlT ?_|refine QV QlF ?_|refine QV QgT ?_|refine QV QgF ?_|refine QV QeT ?_|refine QV QeF ?_|refine QV QnT ?_|refine QV QnF ?_|refine QV QaA ?_))
          refine TL_callB [0, 1, 2] [3, 4, 5, 6, 7, 8] (by decide) rfl rfl (he6 EntersC.en rfl rfl rfl rfl rfl rfl rfl) (fun w' hm hb => IHk w' _ (ho.on hm fun o h => pick_mem2 h) hb) rfl rfl rfl ?_
          rintro ⟨v', F'⟩ ⟨o1, o2⟩
          conv=>arg 8;simp only[zA,zB,zC,zD,zE,zF,zG,zH,zI,rowS,ret,id_eq]
          refine TL_know (i := 9) (φ := v'.oneCell' = true ∧ v'.cells = #[v']) rfl (fun w h => kidsO_one h) fun hvm => ?_
          repeat(first|refine QV QP ?_|refine QZ ?_|refine qcT rfl ?_|refine qcF rfl ?_|refine E_blockX ?_|refine E_blockO rfl ?_|refine qs rfl rfl rfl rfl rfl rfl ?_|((try refine qg rfl rfl rfl ?_);first|refine QV QP ?_|refine QV QL ?_|refine QV QA ?_|refine QV (rr_nilc rfl) ?_|refine QV QlT ?_|refine QV QlF ?_|refine QV QgT ?_|refine QV QgF ?_|refine QV QeT ?_|refine QV QeF ?_|refine QV QnT ?_|refine QV QnF ?_|refine QV QaA ?_))
          refine TL_new rfl fun g20 => ?_
          refine TL_storeB (i := 10) rfl rfl rfl rfl (by simp [treeV, Value.cells, hvm.1]; exact ⟨rfl, rfl⟩) rfl ?_
          conv=>arg 8;simp only[zA,zB,zC,zD,zE,zF,zG,zH,zI,rowS,ret,id_eq]
          by_cases c0 : er = 0
          · subst c0
            rw [if_neg (by decide)] at i8
            have g3 := hg3 _ _ rfl
            clear hg3
            clear hR
            repeat(first|refine QV QP ?_|refine QZ ?_|refine qcT rfl ?_|refine qcF rfl ?_|refine E_blockX ?_|refine E_blockO rfl ?_|refine qs rfl rfl rfl rfl rfl rfl ?_|((try refine qg rfl rfl rfl ?_);first|refine QV QP ?_|refine QV (rr_load1 TyC.ty rfl (at_blk (i := 2) rfl rfl)) ?_|refine QV (rr_loadB (i := 10) TyC.ty rfl rfl rfl) ?_|refine QV QL ?_|refine QV QA ?_|refine QV (rr_nilc rfl) ?_|refine QV QlT ?_|refine QV QlF ?_|refine QV QgT ?_|refine QV QgF ?_|refine QV QeT ?_|refine QV QeF ?_|refine QV QnT ?_|refine QV QnF ?_|refine QV QaA ?_))
            refine TL_pushN (i := 3) rfl rfl rfl rfl (by simp [treeV, Value.cells, hvm.1]; exact ⟨rfl, rfl⟩) rfl rfl (fun z h => by cases h; rfl) (by omega) (by omega) rfl fun z' v2 => ?_
            conv=>arg 8;simp only[zA,zB,zC,zD,zE,zF,zG,zH,zI,rowS,ret,id_eq]
            refine TL_slv (i := 3) rfl fun hv1 hv2 => ?_
            repeat(first|refine QV QP ?_|refine QZ ?_|refine qcT rfl ?_|refine qcF rfl ?_|refine E_blockX ?_|refine E_blockO rfl ?_|refine qs rfl rfl rfl rfl rfl rfl ?_|((try refine qg rfl rfl rfl ?_);first|refine QV QP ?_|refine QV QL ?_|refine QV QA ?_|refine QV (rr_nilc rfl) ?_|refine QV QlT ?_|refine QV QlF ?_|refine QV QgT ?_|refine QV QgF ?_|refine QV QeT ?_|refine QV QeF ?_|refine QV QnT ?_|refine QV QnF ?_|refine QV QaA ?_))
            refine TL_store1 (i := 2) rfl rfl rfl hv1 hv2 rfl ?_
            conv=>arg 8;simp only[zA,zB,zC,zD,zE,zF,zG,zH,zI,rowS,ret,id_eq]
            repeat(first|refine QV QP ?_|refine QZ ?_|refine qcT rfl ?_|refine qcF rfl ?_|refine E_blockX ?_|refine E_blockO rfl ?_|refine qs rfl rfl rfl rfl rfl rfl ?_|((try refine qg rfl rfl rfl ?_);first|refine QV QP ?_|refine QV QL ?_|refine QV QA ?_|refine QV (rr_nilc rfl) ?_|refine QV QlT ?_|refine QV QlF ?_|refine QV QgT ?_|refine QV QgF ?_|refine QV QeT ?_|refine QV QeF ?_|refine QV QnT ?_|refine QV QnF ?_|refine QV QaA ?_))
            refine E_merge (elsO treeS (fun k => F k ∨ F' k) (css ++ [[.int .i64 p', .int .i64 r', v']]) (ts ++ [.mk p' r' ks'])) 9 4 [6, 7, 8, 0, 1, 2, 3] (by decide) rfl rfl rfl (fun k hk => hk.elim (fun h => by cases h) fun h => h.elim (fun h => .inr (.inr h)) fun h => .inl (.inr h)) (fun w hk he => ?_) ?_
            · obtain ⟨⟨v'', hv, h5⟩, h6⟩ := hk
              simp only [List.cons.injEq, and_true] at hv
              subst hv
              exact els_snoc he (tree_iff.2 ⟨v', rfl, o1, o2, h5⟩) h6
            exact E_round (j + 1, m, k2, v2, css ++ [[.int .i64 p', .int .i64 r', v']], fun k => F k ∨ F' k, ts ++ [.mk p' r' ks']) ⟨by omega, (by show a ≤ m; omega), (by show m ≤ b; omega), (by show k2 ≤ 1000; omega), hv2, by simp [i6], m4, by rw [i8]; simp⟩ (by show body.length - (j + 1) < body.length - j; omega) (by repeat' (first | exact True.intro | refine And.intro rfl ?_)) (by rw [List.flatten_append]; rfl)
          · have hfin : (if K.2.1 ≠ 0 then ((.mk 0 0 [], K.2) : Tree × Int × Nat) else (.mk (p : Nat) 0 K.1, K.2)) = (.mk 0 0 [], er, k2) := by rw [i8, if_pos c0]; exact if_pos c0
            rw [hfin]
            clear hfin hR i8
            repeat(first|refine QV QP ?_|refine QZ ?_|refine qcT rfl ?_|refine qcF rfl ?_|refine E_blockX ?_|refine E_blockO rfl ?_|refine qs rfl rfl rfl rfl rfl rfl ?_|((try refine qg rfl rfl rfl ?_);first|refine QV QP ?_|refine QV (rr_build rfl build_tree0) ?_|refine QV QL ?_|refine QV QA ?_|refine QV (rr_nilc rfl) ?_|refine QV QlT ?_|refine QV QlF ?_|refine QV QgT ?_|refine QV QgF ?_|refine QV QeT ?_|refine QV QeF ?_|refine QV QnT ?_|refine QV QnF ?_|refine QV QaA ?_))
            refine TL_storeB (i := 1) rfl rfl rfl rfl rfl rfl ?_
            conv=>arg 8;simp only[zA,zB,zC,zD,zE,zF,zG,zH,zI,rowS,ret,id_eq]
            repeat(first|refine QV QP ?_|refine QZ ?_|refine qcT rfl ?_|refine qcF rfl ?_|refine E_blockX ?_|refine E_blockO rfl ?_|refine qs rfl rfl rfl rfl rfl rfl ?_|((try refine qg rfl rfl rfl ?_);first|refine QV QP ?_|refine QV QL ?_|refine QV QA ?_|refine QV (rr_nilc rfl) ?_|refine QV QlT ?_|refine QV QlF ?_|refine QV QgT ?_|refine QV QgF ?_|refine QV QeT ?_|refine QV QeF ?_|refine QV QnT ?_|refine QV QnF ?_|refine QV QaA ?_))
            refine E_extra (kidsO (fun _ => False) (.slice none 0 0) []) (fun k hk => hk.elim (fun h => by cases h) id) kidsO_nil ?_
            exact E_retc2 (i := 1) rfl rfl rfl rfl rfl fun w hm => hm.meetsB (S := trS gc gm gn n t (.slice (some ⟨b0, off0, none⟩) prods.length cp) vw c Bd (.mk 0 0 [], er, k2)) (.slice none 0 0, fun _ => False) ⟨okz, okz⟩ [6, 7, 8, 11] (by decide) rfl
        · have hne : m ≠ M := fun e => by subst e; exact hcut hmid
          have hst : midM (cutB (oneF c word) (yq, ym) (body.drop (j + 1)) a' b) (m + 1) (b - (m + 1)) = M := by
            rw [← mid_step (by simpa using hcut), show b - (m + 1) + 1 = b - m by omega]; exact j3
          clear j3
          have hcc : oneF c word (yq, ym) a' m = 0 ∨ (0 < oneF c word (yq, ym) a' m ∧ rowF (oneF c word) (body.drop (j + 1)) m b = 0) := by
            unfold cutB at hcut
            rw [Bool.and_eq_true, decide_eq_true_iff, decide_eq_true_iff] at hcut
            omega
          rcases hcc with h1 | ⟨h1, h2⟩
          · repeat(first|refine QV QP ?_|refine QZ ?_|refine qcT rfl ?_|refine qcF rfl ?_|refine E_blockX ?_|refine E_blockO rfl ?_|refine qs rfl rfl rfl rfl rfl rfl ?_|((try refine qg rfl rfl rfl ?_);first|refine QV QP ?_|refine QV (rr_loadB (i := 8) TyC.ty rfl rfl rfl) ?_|refine QV QL ?_|refine QV QA ?_|refine QV (rr_nilc rfl) ?_|refine QV QlT ?_|refine QV QlF ?_|refine QV QgT ?_|refine QV QgF ?_|refine QV QeT ?_|refine QV QeF ?_|refine QV QnT ?_|refine QV QnF ?_|refine QV QaA ?_))
            refine TL_call (he4 EntersC.en rfl rfl rfl rfl rfl) (fun w hm => hone (yq, ym) a' m w (hCh _ (hm.get (i := 0) rfl) (hm.get (i := 1) rfl) (hW.gr (ho.mem hm))) hyo j1 (by omega) hw) rfl rfl rfl ?_
            intro _ _
            rw [h1]
            conv=>arg 8;simp only[zA,zB,zC,zD,zE,zF,zG,zH,zI,rowS,ret,id_eq]
            repeat(first|refine QV QP ?_|refine QZ ?_|refine qcT rfl ?_|refine qcF rfl ?_|refine E_blockX ?_|refine E_blockO rfl ?_|refine qs rfl rfl rfl rfl rfl rfl ?_|((try refine qg rfl rfl rfl ?_);first|refine QV QP ?_|refine QV (rr_add64 (r := ((m + 1 : Nat) : Int)) rfl rfl (by omega) (by omega) (by omega)) ?_|refine QV QL ?_|refine QV QA ?_|refine QV (rr_nilc rfl) ?_|refine QV QlT ?_|refine QV QlF ?_|refine QV QgT ?_|refine QV QgF ?_|refine QV QeT ?_|refine QV QeF ?_|refine QV QnT ?_|refine QV QnF ?_|refine QV QaA ?_))
            exact E_round (m + 1) ⟨by omega, by omega, hst⟩ (by show M - (m + 1) < M - m; omega) (by repeat' (first | exact True.intro | refine And.intro rfl ?_)) rfl
          · repeat(first|refine QV QP ?_|refine QZ ?_|refine qcT rfl ?_|refine qcF rfl ?_|refine E_blockX ?_|refine E_blockO rfl ?_|refine qs rfl rfl rfl rfl rfl rfl ?_|((try refine qg rfl rfl rfl ?_);first|refine QV QP ?_|refine QV (rr_loadB (i := 8) TyC.ty rfl rfl rfl) ?_|refine QV QL ?_|refine QV QA ?_|refine QV (rr_nilc rfl) ?_|refine QV QlT ?_|refine QV QlF ?_|refine QV QgT ?_|refine QV QgF ?_|refine QV QeT ?_|refine QV QeF ?_|refine QV QnT ?_|refine QV QnF ?_|refine QV QaA ?_))
            refine TL_call (he4 EntersC.en rfl rfl rfl rfl rfl) (fun w hm => hone (yq, ym) a' m w (hCh _ (hm.get (i := 0) rfl) (hm.get (i := 1) rfl) (hW.gr (ho.mem hm))) hyo j1 (by omega) hw) rfl rfl rfl ?_
            intro _ _
            generalize oneF c word (yq, ym) a' m = ov at *
            conv=>arg 8;simp only[zA,zB,zC,zD,zE,zF,zG,zH,zI,rowS,ret,id_eq]
            repeat(first|refine QV QP ?_|refine QZ ?_|refine qcT rfl ?_|refine qcF rfl ?_|refine E_blockX ?_|refine E_blockO rfl ?_|refine qs rfl rfl rfl rfl rfl rfl ?_|((try refine qg rfl rfl rfl ?_);first|refine QV QP ?_|refine QV (rr_add64 (r := ((j + 1 : Nat) : Int)) rfl rfl (by omega) (by omega) (by omega)) ?_|refine QV QL ?_|refine QV QA ?_|refine QV (rr_nilc rfl) ?_|refine QV QlT ?_|refine QV QlF ?_|refine QV QgT ?_|refine QV QgF ?_|refine QV QeT ?_|refine QV QeF ?_|refine QV QnT ?_|refine QV QnF ?_|refine QV QaA ?_|refine QV (rr_slfrom Und.eq TyC.ty rfl rfl (by omega) hb4) ?_))
            refine TL_gcall (he4 EntersC.en rfl rfl rfl rfl rfl) (fun w hm => hrow _ (body.drop (j + 1)) m b w (hCh _ (hm.get (i := 0) rfl) (hm.get (i := 1) rfl) (hW.gr (ho.mem hm))) (hsub _ (ho.mem hm)) hr' (by omega) hb hw) rfl rfl rfl rfl rfl ?_
            intro _ _
            rw [h2]
            conv=>arg 8;simp only[zA,zB,zC,zD,zE,zF,zG,zH,zI,rowS,ret,id_eq]
            repeat(first|refine QV QP ?_|refine QZ ?_|refine qcT rfl ?_|refine qcF rfl ?_|refine E_blockX ?_|refine E_blockO rfl ?_|refine qs rfl rfl rfl rfl rfl rfl ?_|((try refine qg rfl rfl rfl ?_);first|refine QV QP ?_|refine QV (rr_add64 (r := ((m + 1 : Nat) : Int)) rfl rfl (by omega) (by omega) (by omega)) ?_|refine QV QL ?_|refine QV QA ?_|refine QV (rr_nilc rfl) ?_|refine QV QlT ?_|refine QV QlF ?_|refine QV QgT ?_|refine QV QgF ?_|refine QV QeT ?_|refine QV QeF ?_|refine QV QnT ?_|refine QV QnF ?_|refine QV QaA ?_))
            exact E_round (m + 1) ⟨by omega, by omega, hst⟩ (by show M - (m + 1) < M - m; omega) (by repeat' (first | exact True.intro | refine And.intro rfl ?_)) rfl
      · obtain rfl : j = body.length := by omega
        rw [List.drop_of_length_le (Nat.le_refl _), kidsM] at i8
        have hfin : (if K.2.1 ≠ 0 then ((.mk 0 0 [], K.2) : Tree × Int × Nat) else (.mk (p : Nat) 0 K.1, K.2)) = (.mk (p : Nat) 0 ts, 0, k') := by rw [i8]; simp
        rw [hfin]
        clear hfin i8 IH i7 hone hrow hCh
        repeat(first|refine QV QP ?_|refine QZ ?_|refine qcT rfl ?_|refine qcF rfl ?_|refine E_blockX ?_|refine E_blockO rfl ?_|refine qs rfl rfl rfl rfl rfl rfl ?_|((try refine qg rfl rfl rfl ?_);first|refine QV QP ?_|refine QV (rr_loadB (i := 5) TyC.ty rfl rfl rfl) ?_|refine QV QL ?_|refine QV QA ?_|refine QV (rr_nilc rfl) ?_|refine QV QlT ?_|refine QV QlF ?_|refine QV QgT ?_|refine QV QgF ?_|refine QV QeT ?_|refine QV QeF ?_|refine QV QnT ?_|refine QV QnF ?_|refine QV QaA ?_))
        refine TL_storeB (i := 4) rfl rfl rfl rfl (by simp [treeV, Value.cells, i5]; exact ⟨rfl, rfl⟩) rfl ?_
        conv=>arg 8;simp only[zA,zB,zC,zD,zE,zF,zG,zH,zI,rowS,ret,id_eq]
        refine TL_merge (kidsO (Or1 F v) v ts) 6 7 [0, 1, 2, 4] (by decide) rfl rfl rfl (fun k hk => hk.elim (fun h => by cases h) fun h => h.elim (fun h => .inr (.inr h)) fun h => .inl (.inl h)) (fun w hr he => ?_) ?_
        · have hr' : (rowO 142 treeS.c v ts.length css.flatten).holds w := by rw [i6]; exact hr
          exact ⟨⟨v, rfl, slf_of hr' he (by decide)⟩, slO_lt hr' he⟩
        conv=>arg 8;simp only[zA,zB,zC,zD,zE,zF,zG,zH,zI,rowS,ret,id_eq]
        repeat(first|refine QV QP ?_|refine QZ ?_|refine qcT rfl ?_|refine qcF rfl ?_|refine E_blockX ?_|refine E_blockO rfl ?_|refine qs rfl rfl rfl rfl rfl rfl ?_|((try refine qg rfl rfl rfl ?_);first|refine QV QP ?_|refine QV QL ?_|refine QV QA ?_|refine QV (rr_nilc rfl) ?_|refine QV QlT ?_|refine QV QlF ?_|refine QV QgT ?_|refine QV QgF ?_|refine QV QeT ?_|refine QV QeF ?_|refine QV QnT ?_|refine QV QnF ?_|refine QV QaA ?_))
        exact E_retc2 (i := 3) rfl rfl rfl rfl rfl fun w hm => hm.meetsB (S := trS gc gm gn n t (.slice (some ⟨b0, off0, none⟩) prods.length cp) vw c Bd (.mk (p : Nat) 0 ts, 0, k')) (v, Or1 F v) ⟨okn (by omega), okz⟩ [0, 1, 2, 4] (by decide) rfl
end
end Go.Proofs.Ytlojfbnimmdehaa.eng

/- CountO -/
namespace Go.Proofs.Ytlojfbnimmdehaa.eng
open Go.RowKit kit mix gramL treeL countL
def OnlyOk (g : Gram) (word : List Int) (t : Tree) (e : Int) : Prop :=
  if checkC g word ≠ 0 then e = checkC g word ∧ t = .mk 0 0 []
  else (treesN g word = 0 → e = 17 ∧ t = .mk 0 0 []) ∧ (treesN g word = 2 → e = 12 ∧ t = .mk 0 0 []) ∧
    (treesN g word = 1 → ((e = 0 ∧ checkT g t = 0 ∧ yieldT g.prods t = word) ∨ ((e = 2 ∨ e = 7) ∧ t = .mk 0 0 [])) ∧ ∀ t', checkT g t' = 0 → yieldT g.prods t' = word → e = 0 ∧ t = t')
theorem treeM_err (o : Sym → Nat → Nat → Nat) (l : List gramL.Prod) : ∀ (f : Nat) (x : Sym) (a b k : Nat), (treeM o l f x a b k).2.1 = 0 ∨ (((treeM o l f x a b k).2.1 = 2 ∨ (treeM o l f x a b k).2.1 = 7) ∧ (treeM o l f x a b k).1 = .mk 0 0 [])
  | 0, x, a, b, k => by
    rw [treeM]
    dsimp only
    split <;> simp
  | f + 1, x, a, b, k => by
    have hk : ∀ (body : List Sym) (a k : Nat), (kidsM o (treeM o l f) b body a k).2.1 = 0 ∨ (kidsM o (treeM o l f) b body a k).2.1 = 2 ∨ (kidsM o (treeM o l f) b body a k).2.1 = 7 := by
      intro body
      induction body with
      | nil => intro a k; exact .inl rfl
      | cons y r ih =>
        intro a k
        rw [kidsM]
        have h1 := treeM_err o l f y a (midM (cutB o y r a b) a (b - a)) k
        split
        · exact h1.imp id fun h => h.1
        · exact ih _ _
    rw [treeM]
    split
    · exact .inr ⟨.inl rfl, rfl⟩
    · split
      · exact .inl rfl
      · have h1 := hk (prodAt l (bestP o l x a b l.length : Nat)).2 a (k + 1)
        split
        · rename_i c
          exact .inr ⟨h1.resolve_left c, rfl⟩
        · exact h1.imp id fun h => (by rename_i c; exact absurd (by rcases h with h | h <;> omega) c)
theorem treeM_len (o : Sym → Nat → Nat → Nat) (l : List gramL.Prod) (f : Nat) (x : Sym) (a b k : Nat) (hx : x.1 ≠ 1) (h : (treeM o l f x a b k).2.1 = 0) : 0 ≤ (treeM o l f x a b k).1.prod := by
  cases f with
  | zero => rw [treeM]; exact Int.le_refl _
  | succ f =>
    rw [treeM]
    split
    · exact Int.le_refl _
    · first | rw [if_neg hx] | skip
      split
      · exact Int.le_refl _
      · show (0 : Int) ≤ ((bestP o l x a b l.length : Nat) : Int); omega
/-- what is told of one tree -/
theorem only_ok {g : Gram} {word : List Int} {c : Chart} (hck : checkC g word = 0) (hc : Lfp word g.prods g.nons.toNat c) (h1 : treesN g word = 1) :
    OnlyOk g word (treeM (oneF c word) g.prods 100 (2, 0) 0 word.length 0).1 (treeM (oneF c word) g.prods 100 (2, 0) 0 word.length 0).2.1 := by
  obtain ⟨hg, hl, hw⟩ := checkC_ok hck
  obtain ⟨a1, a2, a3, a4, a5, a6⟩ := checkG_ok hg
  have hs := symsOk_of (n := g.nons.toNat) hg (by omega)
  have hN := treesN_eq hck hc
  have ho : oneF c word (2, 0) 0 word.length = 1 := by
    unfold oneF
    rw [if_pos rfl]
    simpa using hN.trans h1
  have herr := treeM_err (oneF c word) g.prods 100 (2, 0) 0 word.length 0
  have hok := treeM_ok hc hs 100 (2, 0) 0 word.length 0
  unfold OnlyOk
  rw [if_neg (by simpa using hck)]
  refine ⟨fun h => by omega, fun h => by omega, fun _ => ⟨?_, fun t' ht hy => ?_⟩⟩
  · rcases herr with h | h
    · refine .inl ⟨h, ?_⟩
      have hp := treeM_len (oneF c word) g.prods 100 (2, 0) 0 word.length 0 (by decide) h
      generalize treeM (oneF c word) g.prods 100 (2, 0) 0 word.length 0 = R at *
      obtain ⟨t, e, k1⟩ := R
      dsimp only at h hp ⊢
      subst h
      obtain ⟨r1, r2, r3, r4, r5, r6⟩ := hok t k1 (.inr ⟨rfl, by dsimp only; omega, by dsimp only; omega⟩) (Nat.zero_le _) (Nat.le_refl _) (by omega) rfl
      refine ⟨checkT_iff.2 ⟨hg, r1, by omega, r4⟩, ?_⟩
      unfold yieldX at r6
      rw [if_neg (by omega)] at r6
      simpa using r6
    · exact .inr h
  · obtain ⟨b1, b2, b3, b4⟩ := checkT_iff.1 ht
    have hp := right_prod b2
    have := treeM_of hc hs 100 t' (2, 0) 0 word.length 0 0 b2 (.inr rfl) (Nat.zero_le _) (Nat.le_refl _) (by omega) (by unfold yieldX; rw [if_neg (by omega), hy]; simp) (by omega) b4 rfl
    rw [this]
    exact ⟨rfl, rfl⟩
def onlyS (g : Gram) (word : List Int) : Spec (Tree × Int × Value × (Nat → Prop)) :=
  ⟨fun x => OnlyOk g word x.1 x.2.1 ∧ kit.okI64 x.1.prod ∧ kit.okI64 x.1.tok, fun x => .tuple #[treeV x.1.prod x.1.tok x.2.2.1, .int .i64 x.2.1], fun x => [kidsO x.2.2.2 x.2.2.1 x.1.kids]⟩
attribute [local irreducible] Instr.build in
set_option maxHeartbeats 4000000 in
theorem only_calls (v vw : Value) (g : Gram) (word : List Int) (w : World) (h : GraR (fun k => k < w.heap.size) w v g) (hs : Sl w vw word.length (word.map (.int .i64))) :
    Calls Try.prog 65 #[v, vw] w (Meets (onlyS g word) w) := by
  have hck := fun w' (hg : Gr w w') => checkC_calls v vw g word w' (h.gr hg) (hs.gr hg)
  by_cases c0 : checkC g word = 0
  · have h0 := h
    obtain ⟨vp, rfl, h1, _⟩ := h
    have hfi := fun w' (hg : Gr w w') => filled_calls vp vw g word w' (h0.gr hg) (hs.gr hg) c0
    have hN := fun (c : Chart) hc => treesN_eq (c := c) c0 hc
    have hO := fun (c : Chart) hc => only_ok (c := c) c0 hc
    have hX : ∀ e, (treesN g word = 0 → e = 17) → (treesN g word = 2 → e = 12) → treesN g word ≠ 1 → OnlyOk g word (.mk 0 0 []) e := fun e e1 e2 e3 => by
      unfold OnlyOk
      rw [if_neg (by simpa using c0)]
      exact ⟨fun h => ⟨e1 h, rfl⟩, fun h => ⟨e2 h, rfl⟩, fun h => absurd h e3⟩
    obtain ⟨hg, hl, hw⟩ := checkC_ok c0
    obtain ⟨a1, a2, a3, a4, a5, a6⟩ := checkG_ok hg
    obtain ⟨n, hn⟩ : ∃ n : Nat, g.nons = n := ⟨g.nons.toNat, by omega⟩
    obtain ⟨f1, f2⟩ := fineC_of hg hn
    have hsy := symsOk_of (n := n) hg hn
    have h8 : ∀ p ∈ g.prods, p.2.length ≤ 8 := fun p hp => (a6 p hp).1
    rw [c0] at hck
    have hs0 := hs
    have hle : treesN g word ≤ 2 := by
      unfold treesN
      rw [if_pos c0]
      have hnn : g.nons.toNat = n := by omega
      rw [hnn]
      exact (chartOf_lfp f2).le2 _
    have hc3 : treesN g word = 0 ∨ treesN g word = 1 ∨ treesN g word = 2 := by omega
    obtain ⟨t, nn, prods⟩ := g
    dsimp only at *
    subst hn
    have htr := fun gc gm c Bd (hc : Lfp word prods n c) hpos gn w' B => treeC_calls w gc gm n t vp vw word prods c Bd h1 hs0 f1 hsy hc hl a5 h8 100 1 (2, 0) 0 word.length 0 gn w' B rfl (.inr ⟨rfl, by dsimp only; omega, by dsimp only; omega⟩) ⟨by decide, by decide⟩ (Nat.zero_le _) (Nat.le_refl _) (by omega) hpos
    obtain ⟨bw, cw, rfl, hw1, hw2, _⟩ := hs
    refine enter (args := [graV t (n : Int) vp, .slice bw word.length cw]) (n := 40) Try.func65 rfl rfl rfl ?_
    refine T_seq (T_region (TL_box rfl rfl rfl fun g2 => TL_new rfl fun g4 => ?_))
    conv=>arg 8;simp only[zA,zB,zC,zD,zE,zF,zG,zH,zI,rowS,ret,id_eq]
    repeat(first|refine QV QP ?_|refine QZ ?_|refine qcT rfl ?_|refine qcF rfl ?_|refine QV (rr_loadB (i := 0) TyC.ty rfl rfl rfl) ?_|refine QV QL ?_|refine QV QA ?_|refine QV (rr_nilc rfl) ?_|refine QV QeT ?_|refine QV QeF ?_|refine QV QnT ?_|refine QV QnF ?_)
    refine TL_call (he2 EntersC.en rfl rfl rfl) (fun w hm => hck _ hm.below) rfl rfl rfl ?_
    intro _ _
    conv=>arg 8;simp only[zA,zB,zC,zD,zE,zF,zG,zH,zI,rowS,ret,id_eq]
    repeat(first|refine QV QP ?_|refine QZ ?_|refine qcT rfl ?_|refine qcF rfl ?_|refine QV (rr_loadB (i := 0) TyC.ty rfl rfl rfl) ?_|refine QV QL ?_|refine QV QA ?_|refine QV (rr_nilc rfl) ?_|refine QV QeT ?_|refine QV QeF ?_|refine QV QnT ?_|refine QV QnF ?_)
    refine TL_call (he2 EntersC.en rfl rfl rfl) (fun w' hm => hfi w' hm.below) rfl rfl rfl ?_
    rintro ⟨gc, gm, c, Bd⟩ ⟨hx, _⟩
    dsimp only at hx
    have hN := hN c hx
    have hO := hO c hx
    have htr := htr gc gm c Bd hx
    clear hfi hck
    conv=>arg 8;simp only[zA,zB,zC,zD,zE,zF,zG,zH,zI,rowS,ret,id_eq, filledS]
    repeat(first|refine QV QP ?_|refine QZ ?_|refine qcT rfl ?_|refine qcF rfl ?_|refine QV QL ?_|refine QV QA ?_|refine QV (rr_nilc rfl) ?_|refine QV QeT ?_|refine QV QeF ?_|refine QV QnT ?_|refine QV QnF ?_)
    refine TL_new rfl fun g8 => ?_
    refine TL_store1 (i := 4) rfl rfl rfl rfl rfl rfl ?_
    rw [show (#[.int .i64 0] : Array Value).setIfInBounds 0 (.int .i64 0) = #[.int .i64 ((0 : Nat) : Int)] from rfl]
    conv=>arg 8;simp only[zA,zB,zC,zD,zE,zF,zG,zH,zI,rowS,ret,id_eq]
    repeat(first|refine QV QP ?_|refine QZ ?_|refine qcT rfl ?_|refine qcF rfl ?_|refine QV (rr_load1 TyC.ty rfl (at_blk (i := 2) rfl rfl)) ?_|refine QV (rr_build rfl (build_span _ _ _)) ?_|refine QV (rr_lookT (x := (0, 0, (word.length : Int))) (i := 3) spanK Und.eq zero_int rfl rfl rfl (span_ok (m := 0) (a := 0) ⟨by decide, by decide⟩ (by omega) (by omega)) (by rw [hN])) ?_|refine QV QL ?_|refine QV QA ?_|refine QV (rr_nilc rfl) ?_|refine QV QeT ?_|refine QV QeF ?_|refine QV QnT ?_|refine QV QnF ?_)
    rcases hc3 with h3 | h3 | h3
    · rw [h3]
      repeat(first|refine QV QP ?_|refine QZ ?_|refine qcT rfl ?_|refine qcF rfl ?_|refine QV (rr_build rfl build_tree0) ?_|refine QV QL ?_|refine QV QA ?_|refine QV (rr_nilc rfl) ?_|refine QV QeT ?_|refine QV QeF ?_|refine QV QnT ?_|refine QV QnF ?_)
      refine TL_storeB (i := 1) rfl rfl rfl rfl rfl rfl ?_
      conv=>arg 8;simp only[zA,zB,zC,zD,zE,zF,zG,zH,zI,rowS,ret,id_eq]
      repeat(first|refine QV QP ?_|refine QZ ?_|refine qcT rfl ?_|refine qcF rfl ?_|refine QV QL ?_|refine QV QA ?_|refine QV (rr_nilc rfl) ?_|refine QV QeT ?_|refine QV QeF ?_|refine QV QnT ?_|refine QV QnF ?_)
      refine E_extra (kidsO (fun _ => False) (.slice none 0 0) []) (fun k hk => hk.elim (fun h => by cases h) id) kidsO_nil ?_
      exact E_retc2 (i := 1) rfl rfl rfl rfl rfl fun w hm => hm.meets (S := onlyS ⟨t, (n : Int), prods⟩ word) (.mk 0 0 [], 17, .slice none 0 0, fun _ => False) ⟨hX 17 (fun _ => rfl) (fun h => by omega) (by omega), okz, okz⟩ [5] (by decide) rfl
    · rw [h3]
      have hpos : 0 < oneF c word (2, 0) 0 word.length := by
        unfold oneF
        rw [if_pos rfl]
        have : c (0, 0, (word.length : Int)) = 1 := hN.trans h3
        show 0 < c (0, ((0 : Nat) : Int), (word.length : Int))
        rw [show ((0 : Nat) : Int) = 0 from rfl, this]; decide
      have htr := htr hpos
      have hO := hO h3
      generalize treeM (oneF c word) prods 100 (2, 0) 0 word.length 0 = R at *
      obtain ⟨⟨p, q, ks⟩, e, k2⟩ := R
      simp only [trS_mk] at htr
      dsimp only at hO
      repeat(first|refine QV QP ?_|refine QZ ?_|refine qcT rfl ?_|refine qcF rfl ?_|refine QV (rr_build rfl build_sym2) ?_|refine QV QL ?_|refine QV QA ?_|refine QV (rr_nilc rfl) ?_|refine QV QeT ?_|refine QV QeF ?_|refine QV QnT ?_|refine QV QnF ?_)
      refine TL_callB [2, 3, 4] [0, 1] (by decide) rfl rfl (he6 EntersC.en rfl rfl rfl rfl rfl rfl rfl) (fun w' hm hb => htr g8 w' _ ((Old.self w).on hm fun o h => pick_mem2 h) hb) rfl rfl rfl ?_
      rintro ⟨v', F'⟩ ⟨o1, o2⟩
      conv=>arg 8;simp only[zA,zB,zC,zD,zE,zF,zG,zH,zI,rowS,ret,id_eq]
      refine TL_know (i := 5) (φ := v'.oneCell' = true ∧ v'.cells = #[v']) rfl (fun w h => kidsO_one h) fun hvm => ?_
      repeat(first|refine QV QP ?_|refine QZ ?_|refine qcT rfl ?_|refine qcF rfl ?_|refine QV QL ?_|refine QV QA ?_|refine QV (rr_nilc rfl) ?_|refine QV QeT ?_|refine QV QeF ?_|refine QV QnT ?_|refine QV QnF ?_)
      refine TL_storeB (i := 1) rfl rfl rfl rfl (by simp [treeV, Value.cells, hvm.1]; exact ⟨rfl, rfl⟩) rfl ?_
      conv=>arg 8;simp only[zA,zB,zC,zD,zE,zF,zG,zH,zI,rowS,ret,id_eq]
      repeat(first|refine QV QP ?_|refine QZ ?_|refine qcT rfl ?_|refine qcF rfl ?_|refine QV QL ?_|refine QV QA ?_|refine QV (rr_nilc rfl) ?_|refine QV QeT ?_|refine QV QeF ?_|refine QV QnT ?_|refine QV QnF ?_)
      exact E_retc2 (i := 1) rfl rfl rfl rfl rfl fun w hm => hm.meets (S := onlyS ⟨t, (n : Int), prods⟩ word) (.mk p q ks, e, v', F') ⟨hO, o1, o2⟩ [5] (by decide) rfl
    · rw [h3]
      repeat(first|refine QV QP ?_|refine QZ ?_|refine qcT rfl ?_|refine qcF rfl ?_|refine QV (rr_build rfl build_tree0) ?_|refine QV QL ?_|refine QV QA ?_|refine QV (rr_nilc rfl) ?_|refine QV QeT ?_|refine QV QeF ?_|refine QV QnT ?_|refine QV QnF ?_)
      refine TL_storeB (i := 1) rfl rfl rfl rfl rfl rfl ?_
      conv=>arg 8;simp only[zA,zB,zC,zD,zE,zF,zG,zH,zI,rowS,ret,id_eq]
      repeat(first|refine QV QP ?_|refine QZ ?_|refine qcT rfl ?_|refine qcF rfl ?_|refine QV QL ?_|refine QV QA ?_|refine QV (rr_nilc rfl) ?_|refine QV QeT ?_|refine QV QeF ?_|refine QV QnT ?_|refine QV QnF ?_)
      refine E_extra (kidsO (fun _ => False) (.slice none 0 0) []) (fun k hk => hk.elim (fun h => by cases h) id) kidsO_nil ?_
      exact E_retc2 (i := 1) rfl rfl rfl rfl rfl fun w hm => hm.meets (S := onlyS ⟨t, (n : Int), prods⟩ word) (.mk 0 0 [], 12, .slice none 0 0, fun _ => False) ⟨hX 12 (fun h => by omega) (fun _ => rfl) (by omega), okz, okz⟩ [5] (by decide) rfl
  · have hX : OnlyOk g word (.mk 0 0 []) (checkC g word) := by
      unfold OnlyOk
      rw [if_pos c0]
      exact ⟨rfl, rfl⟩
    obtain ⟨vp, rfl, h1, _⟩ := h
    obtain ⟨bw, cw, rfl, _⟩ := hs
    generalize checkC g word = e at *
    obtain ⟨t, n, prods⟩ := g
    dsimp only at *
    refine enter (args := [graV t n vp, .slice bw word.length cw]) (n := 40) Try.func65 rfl rfl rfl ?_
    refine T_seq (T_region (TL_box rfl rfl rfl fun g2 => TL_new rfl fun g4 => ?_))
    conv=>arg 8;simp only[zA,zB,zC,zD,zE,zF,zG,zH,zI,rowS,ret,id_eq]
    repeat(first|refine QV QP ?_|refine QZ ?_|refine qcT rfl ?_|refine qcF rfl ?_|refine QV (rr_loadB (i := 0) TyC.ty rfl rfl rfl) ?_|refine QV QL ?_|refine QV QA ?_|refine QV (rr_nilc rfl) ?_|refine QV QeT ?_|refine QV QeF ?_|refine QV QnT ?_|refine QV QnF ?_)
    refine TL_call (he2 EntersC.en rfl rfl rfl) (fun w hm => hck _ hm.below) rfl rfl rfl ?_
    intro _ _
    conv=>arg 8;simp only[zA,zB,zC,zD,zE,zF,zG,zH,zI,rowS,ret,id_eq]
    repeat(first|refine QV QP ?_|refine QZ ?_|refine qcT rfl ?_|refine qcF rfl ?_|refine QV (rr_build rfl build_tree0) ?_|refine QV QL ?_|refine QV QA ?_|refine QV (rr_nilc rfl) ?_|refine QV QeT ?_|refine QV QeF ?_|refine QV QnT ?_|refine QV QnF ?_)
    refine TL_storeB (i := 1) rfl rfl rfl rfl rfl rfl ?_
    conv=>arg 8;simp only[zA,zB,zC,zD,zE,zF,zG,zH,zI,rowS,ret,id_eq]
    repeat(first|refine QV QP ?_|refine QZ ?_|refine qcT rfl ?_|refine qcF rfl ?_|refine QV QL ?_|refine QV QA ?_|refine QV (rr_nilc rfl) ?_|refine QV QeT ?_|refine QV QeF ?_|refine QV QnT ?_|refine QV QnF ?_)
    refine E_extra (kidsO (fun _ => False) (.slice none 0 0) []) (fun k hk => hk.elim (fun h => by cases h) id) kidsO_nil ?_
    exact E_retc2 (i := 1) rfl rfl rfl rfl rfl fun w hm => hm.meets (S := onlyS ⟨t, n, prods⟩ word) (.mk 0 0 [], e, .slice none 0 0, fun _ => False) ⟨hX, okz, okz⟩ [2] (by decide) rfl
end Go.Proofs.Ytlojfbnimmdehaa.eng

/- ClimbF -/
namespace Go.Proofs.Ytlojfbnimmdehaa.eng
open Go.RowKit kit mix gramL treeL climbL llL countL factsL derL
theorem only_five {g : Gram} {word : List Int} {t : Tree} {e : Int} (hc : checkC g word = 0) (h : OnlyOk g word t e) :
    (treesN g word = 0 ∧ e = 17) ∨ (e = 12 ∨ e = 2 ∨ e = 7) ∨ (e = 0 ∧ checkT g t = 0 ∧ yieldT g.prods t = word) := by
  unfold OnlyOk at h
  rw [if_neg (by simpa using hc)] at h
  obtain ⟨h0, h2, h1⟩ := h
  have hle : treesN g word ≤ 2 := by
    obtain ⟨hg, _⟩ := checkC_ok hc
    obtain ⟨_, _, a3, _⟩ := checkG_ok hg
    unfold treesN
    rw [if_pos hc]
    exact (chartOf_lfp (symsOk_of (n := g.nons.toNat) hg (by omega)).nons).le2 _
  have h3 : treesN g word = 0 ∨ treesN g word = 1 ∨ treesN g word = 2 := by omega
  rcases h3 with h3 | h3 | h3
  · exact .inl ⟨h3, (h0 h3).1⟩
  · rcases (h1 h3).1 with ⟨a, b, d⟩ | ⟨a, _⟩
    · exact .inr (.inr ⟨a, b, d⟩)
    · exact .inr (.inl (by omega))
  · exact .inr (.inl (.inl (h2 h3).1))
set_option maxHeartbeats 4000000 in
theorem parsed_calls (v vw vl : Value) (g : Gram) (word : List Int) (l : List Sym) (had : Nat) (e : Int) (dn : Bool) (w : World) (h : GraR (fun k => k < w.heap.size) w v g) (hs : Sl w vw word.length (word.map (.int .i64))) (hl : Sl w vl l.length (l.flatMap symC)) (hc : checkC g word = 0)
    (H0 : treesN g word = 0 → e = 14 ∨ e = 13) (H1 : ∀ t, checkT g t = 0 → yieldT g.prods t = word → e = 14 ∨ (e = 0 ∧ had = word.length ∧ l = if dn then downE g.prods t else upE g.prods t)) :
    Calls Try.prog 33 #[v, vw, vl, .int .i64 (had : Int), .int .i64 e, .bool dn] w (Meets (ret (.bool true)) w) := by
  have hO := fun w' (hg : Gr w w') => only_calls v vw g word w' (h.gr hg) (hs.gr hg)
  have hD := fun va t w' (hg : Gr w w') ht hc => down_calls v va g t w' (h.gr hg) ht hc
  have hU := fun va t w' (hg : Gr w w') ht hc => up_calls v va g t w' (h.gr hg) ht hc
  have hEq := fun v' l' w' (hg : Gr w w') h' => equalEvQ_calls vl v' l l' w' (hl.gr hg) h'
  have h5 := fun t f => only_five (t := t) (e := f) hc
  obtain ⟨vp, rfl, _⟩ := h
  obtain ⟨bw, cw, rfl, hw1, hw2, hw3⟩ := hs
  refine enter (args := [graV g.terms g.nons vp, .slice bw word.length cw, vl, .int .i64 (had : Int), .int .i64 e, .bool dn]) (n := 56) Try.func33 rfl rfl rfl ?_
  refine T_seq (T_region (TL_box rfl rfl rfl fun g6 => ?_))
  conv=>arg 8;simp only[zA,zB,zC,zD,zE,zF,zG,zH,zI,rowS,ret,id_eq]
  repeat(first|refine QV QP ?_|refine QZ ?_|refine qcT rfl ?_|refine qcF rfl ?_|refine qs rfl rfl rfl rfl rfl rfl ?_|((try refine qg rfl rfl rfl ?_);first|refine QV QP ?_|refine QV (rr_loadB (i := 0) TyC.ty rfl rfl rfl) ?_|refine QV QeT ?_|refine QV QeF ?_|refine QV QnT ?_|refine QV QnF ?_|refine QV QL ?_))
  refine TL_call (he2 EntersC.en rfl rfl rfl) (fun w' hm => hO w' hm.below) rfl rfl rfl ?_
  rintro ⟨t, f, vk, F⟩ ⟨ho, hp1, hp2⟩
  have h5 := h5 t f ho
  clear ho hO
  conv=>arg 8;simp only[zA,zB,zC,zD,zE,zF,zG,zH,zI,rowS,ret,id_eq, onlyS]
  conv => arg 7; simp only [onlyS]
  repeat(first|refine QV QP ?_|refine QZ ?_|refine qcT rfl ?_|refine qcF rfl ?_|refine qs rfl rfl rfl rfl rfl rfl ?_|((try refine qg rfl rfl rfl ?_);first|refine QV QP ?_|refine QV QeT ?_|refine QV QeF ?_|refine QV QnT ?_|refine QV QnF ?_|refine QV QL ?_))
  refine TL_new rfl fun g13 => ?_
  refine TL_know (i := 1) rfl (fun w h => kidsO_one h) fun hk => ?_
  refine TL_storeB (i := 2) (cs' := #[.int .i64 t.prod, .int .i64 t.tok, vk]) rfl rfl rfl rfl (by simp only [List.all_cons, List.all_nil, hk.1]; rfl) rfl ?_
  conv=>arg 8;simp only[zA,zB,zC,zD,zE,zF,zG,zH,zI,rowS,ret,id_eq]
  repeat(first|refine QV QP ?_|refine QZ ?_|refine qcT rfl ?_|refine qcF rfl ?_|refine qs rfl rfl rfl rfl rfl rfl ?_|((try refine qg rfl rfl rfl ?_);first|refine QV QP ?_|refine QV QeT ?_|refine QV QeF ?_|refine QV QnT ?_|refine QV QnF ?_|refine QV QL ?_))
  by_cases c14 : e = 14
  · subst c14
    repeat(first|refine QV QP ?_|refine QZ ?_|refine qcT rfl ?_|refine qcF rfl ?_|refine qs rfl rfl rfl rfl rfl rfl ?_|((try refine qg rfl rfl rfl ?_);first|refine QV QP ?_|refine QV QeT ?_|refine QV QeF ?_|refine QV QnT ?_|refine QV QnF ?_|refine QV QL ?_))
    exact E_ret1 rfl rfl fun w hm => hm.ret
  · rcases h5 with ⟨h5, rfl⟩ | h5 | ⟨rfl, h5, h6⟩
    · obtain rfl : e = 13 := (H0 h5).resolve_left c14
      repeat(first|refine QV QP ?_|refine QZ ?_|refine qcT rfl ?_|refine qcF rfl ?_|refine qs rfl rfl rfl rfl rfl rfl ?_|((try refine qg rfl rfl rfl ?_);first|refine QV QP ?_|refine QV (rr_eql (b := true) rfl rfl rfl) ?_|refine QV QeT ?_|refine QV QeF ?_|refine QV QnT ?_|refine QV QnF ?_|refine QV QL ?_))
      exact E_ret1 rfl rfl fun w hm => hm.ret
    · repeat(first|refine QV QP ?_|refine QZ ?_|refine qcT rfl ?_|refine qcF rfl ?_|refine qs rfl rfl rfl rfl rfl rfl ?_|((try refine qg rfl rfl rfl ?_);first|refine QV QP ?_|refine QV (rr_eql (b := false) rfl rfl (decide_eq_false (by omega))) ?_|refine QV (rr_neq (b := true) rfl rfl (decide_eq_true (by omega))) ?_|refine QV QeT ?_|refine QV QeF ?_|refine QV QnT ?_|refine QV QnF ?_|refine QV QL ?_))
      exact E_ret1 rfl rfl fun w hm => hm.ret
    · obtain ⟨rfl, rfl, rfl⟩ := (H1 t h5 h6).resolve_left c14
      cases dn with
      | true =>
        repeat(first|refine QV QP ?_|refine QZ ?_|refine qcT rfl ?_|refine qcF rfl ?_|refine qs rfl rfl rfl rfl rfl rfl ?_|((try refine qg rfl rfl rfl ?_);first|refine QV QP ?_|refine QV (rr_eql (b := true) rfl rfl rfl) ?_|refine QV (rr_loadB (i := 0) TyC.ty rfl rfl rfl) ?_|refine QV (rr_loadB (i := 2) TyC.ty rfl rfl rfl) ?_|refine QV QeT ?_|refine QV QeF ?_|refine QV QnT ?_|refine QV QnF ?_|refine QV QL ?_))
        refine TL_call (he2 EntersC.en rfl rfl rfl) (fun w' hm => hD _ t w' hm.below (kidsO_tree hp1 hp2 (hm.get (i := 1) rfl)) h5) rfl rfl rfl ?_
        intro ve _
        conv=>arg 8;simp only[zA,zB,zC,zD,zE,zF,zG,zH,zI,rowS,ret,id_eq, eS]
        conv => arg 7; simp only [eS, rowS]
        repeat(first|refine QV QP ?_|refine QZ ?_|refine qcT rfl ?_|refine qcF rfl ?_|refine qs rfl rfl rfl rfl rfl rfl ?_|((try refine qg rfl rfl rfl ?_);first|refine QV QP ?_|refine QV (rr_eql (b := true) rfl rfl rfl) ?_|refine QV (rr_len Und.eq rfl) ?_|refine QV QeT ?_|refine QV QeF ?_|refine QV QnT ?_|refine QV QnF ?_|refine QV QL ?_))
        refine TL_gcall (he2 EntersC.en rfl rfl rfl) (fun w' hm => hEq ve _ w' hm.below (Sl.of_own (hm.get (i := 3) rfl))) rfl rfl rfl rfl rfl ?_
        intro _ _
        rw [if_pos rfl, decide_eq_true (rfl : downE g.prods t = downE g.prods t)]
        repeat(first|refine QV QP ?_|refine QZ ?_|refine qcT rfl ?_|refine qcF rfl ?_|refine qs rfl rfl rfl rfl rfl rfl ?_|((try refine qg rfl rfl rfl ?_);first|refine QV QP ?_|refine QV QeT ?_|refine QV QeF ?_|refine QV QnT ?_|refine QV QnF ?_|refine QV QL ?_))
        exact E_ret1 rfl rfl fun w hm => hm.ret
      | false =>
        repeat(first|refine QV QP ?_|refine QZ ?_|refine qcT rfl ?_|refine qcF rfl ?_|refine qs rfl rfl rfl rfl rfl rfl ?_|((try refine qg rfl rfl rfl ?_);first|refine QV QP ?_|refine QV (rr_eql (b := true) rfl rfl rfl) ?_|refine QV (rr_loadB (i := 0) TyC.ty rfl rfl rfl) ?_|refine QV (rr_loadB (i := 2) TyC.ty rfl rfl rfl) ?_|refine QV QeT ?_|refine QV QeF ?_|refine QV QnT ?_|refine QV QnF ?_|refine QV QL ?_))
        refine TL_call (he2 EntersC.en rfl rfl rfl) (fun w' hm => hU _ t w' hm.below (kidsO_tree hp1 hp2 (hm.get (i := 1) rfl)) h5) rfl rfl rfl ?_
        intro ve _
        conv=>arg 8;simp only[zA,zB,zC,zD,zE,zF,zG,zH,zI,rowS,ret,id_eq, eS]
        conv => arg 7; simp only [eS, rowS]
        repeat(first|refine QV QP ?_|refine QZ ?_|refine qcT rfl ?_|refine qcF rfl ?_|refine qs rfl rfl rfl rfl rfl rfl ?_|((try refine qg rfl rfl rfl ?_);first|refine QV QP ?_|refine QV (rr_eql (b := true) rfl rfl rfl) ?_|refine QV (rr_len Und.eq rfl) ?_|refine QV QeT ?_|refine QV QeF ?_|refine QV QnT ?_|refine QV QnF ?_|refine QV QL ?_))
        refine TL_gcall (he2 EntersC.en rfl rfl rfl) (fun w' hm => hEq ve _ w' hm.below (Sl.of_own (hm.get (i := 3) rfl))) rfl rfl rfl rfl rfl ?_
        intro _ _
        rw [if_neg (by decide), decide_eq_true (rfl : upE g.prods t = upE g.prods t)]
        repeat(first|refine QV QP ?_|refine QZ ?_|refine qcT rfl ?_|refine qcF rfl ?_|refine qs rfl rfl rfl rfl rfl rfl ?_|((try refine qg rfl rfl rfl ?_);first|refine QV QP ?_|refine QV QeT ?_|refine QV QeF ?_|refine QV QnT ?_|refine QV QnF ?_|refine QV QL ?_))
        exact E_ret1 rfl rfl fun w hm => hm.ret
end Go.Proofs.Ytlojfbnimmdehaa.eng

/- BuildParsesW -/
namespace Go.Proofs.Ytlojfbnimmdehaa.buildParses
open Go.RowKit kit mix gramL treeL countL factsL itemL derL eng
open climbL (right_der yieldX_top)
theorem brk_tab : LrOk brkG 2 1 (actTab brkP 2 brkNx brkSt 10) (gotoTab 2 brkNx 10) := brk_made.tab
theorem brk_run : (bRun brkG.prods (actT (actTab brkP 2 brkNx brkSt 10)) (gotoT (gotoTab 2 brkNx 10)) 2 [0, 1] [0] 0 []).2 = (2, 0) ∧ (bRun brkG.prods (actT (actTab brkP 2 brkNx brkSt 10)) (gotoT (gotoTab 2 brkNx 10)) 2 [0, 1] [0] 0 []).1.length = 5 ∧ (bRun brkG.prods (actT (actTab brkP 2 brkNx brkSt 10)) (gotoT (gotoTab 2 brkNx 10)) 2 [0, 1] [0] 0 []).1[0]? = some (2, 0) := ⟨by kernel_rfl, by kernel_rfl, by kernel_rfl⟩
set_option maxRecDepth 100000 in
set_option maxHeartbeats 8000000 in
theorem walk (w : World) (v : Value) (g : Gram) (h : GraR (fun k => k < w.heap.size) w v g) (_ : g.prods.length * 32 ≤ 140737488351232) (vw : Value) (word : List Int) (hs : Sl w vw word.length (word.map (.int .i64))) (_ : ∀ n ∈ word, kit.okI64 n) (hl : word.length * 8 ≤ 140737488351232) :
    Calls Try.prog 8 #[v, vw] w (Meets (ret (.bool true)) w) := by
  have hT := fun w' (hg : Gr w w') => trees_calls v vw g word w' (h.gr hg) (hs.gr hg)
  have hA := fun w' (hg : Gr w w') => calm_calls v g w' (h.gr hg)
  have hC := fun t T N A G w' (hg : Gr w w') ht hk hw hl => built_calls v t vw g T N A G word w' (h.gr hg) ht (hs.gr hg) hk hw hl
  have hP := fun vl l had e w' (hg : Gr w w') hl hc => parsed_calls v vw vl g word l had e false w' (h.gr hg) (hs.gr hg) hl hc
  obtain ⟨vp, rfl, -⟩ := h
  refine enter (args := [graV g.terms g.nons vp, vw]) (n := 74) Try.func8 rfl rfl rfl ?_
  refine T_seq (T_region (TL_box rfl rfl rfl fun g2 => ?_))
  conv=>arg 8;simp only[zA,zB,zC,zD,zE,zF,zG,zH,zI,rowS,ret,id_eq]
  repeat(first|refine QV QP ?_|refine QZ ?_|refine qcT rfl ?_|refine qcF rfl ?_|refine qs rfl rfl rfl rfl rfl rfl ?_|((try refine qg rfl rfl rfl ?_);first|refine QV QP ?_|refine QV (rr_not rfl rfl) ?_|refine QV QnT ?_|refine QV QnF ?_|refine QV QL ?_|refine QV QA ?_))
  refine TL_call (he0 EntersC.en rfl) (fun w hm => brackets_calls w) rfl rfl rfl ?_
  rintro ⟨vb, F1⟩ _
  conv=>arg 8;simp only[zA,zB,zC,zD,zE,zF,zG,zH,zI,rowS,ret,id_eq, gramS]
  conv => arg 7; simp only [gramS]
  refine TL_call (he1 EntersC.en rfl rfl) (fun w' hm => calm_calls _ brkG w' (prodsO_gra ok2 ok1 (hm.get (i := 1) rfl))) rfl rfl rfl ?_
  rintro x _
  unfold calmS tabL
  rw [brk_calm, brk_outT]
  conv=>arg 8;simp only[zA,zB,zC,zD,zE,zF,zG,zH,zI,rowS,ret,id_eq]
  refine TL_know (i := 2) rfl (fun w h => row_slm w h) fun hrow => ?_
  obtain ⟨aA, cA, hvA, -⟩ := hrow
  refine TL_know (i := 4) rfl (fun w h => row_slm w h) fun hrow => ?_
  obtain ⟨aG, cG, hvG, -⟩ := hrow
  obtain ⟨vA, vas, FA, vG, vgs, FG⟩ := x
  dsimp only at hvA hvG ⊢
  subst hvA hvG
  repeat(first|refine QV QP ?_|refine QZ ?_|refine qcT rfl ?_|refine qcF rfl ?_|refine qs rfl rfl rfl rfl rfl rfl ?_|((try refine qg rfl rfl rfl ?_);first|refine QV QP ?_|refine QV (rr_not rfl rfl) ?_|refine QV QnT ?_|refine QV QnF ?_|refine QV QL ?_|refine QV QA ?_))
  refine TL_new rfl fun g5 => ?_
  conv=>arg 8;simp only[zA,zB,zC,zD,zE,zF,zG,zH,zI,rowS,ret,id_eq]
  refine TL_storeB (i := 6) rfl rfl rfl rfl rfl rfl ?_
  conv=>arg 8;simp only[zA,zB,zC,zD,zE,zF,zG,zH,zI,rowS,ret,id_eq]
  repeat(first|refine QV QP ?_|refine QZ ?_|refine qcT rfl ?_|refine qcF rfl ?_|refine qs rfl rfl rfl rfl rfl rfl ?_|((try refine qg rfl rfl rfl ?_);first|refine QV QP ?_|refine QV (rr_not rfl rfl) ?_|refine QV QnT ?_|refine QV QnF ?_|refine QV QL ?_|refine QV QA ?_))
  refine T_ord ([blkO g5 #[.slice aA (actTab brkP 2 brkNx brkSt 10).length cA, .slice aG (gotoTab 2 brkNx 10).length cG] 29]) (.calm 1 (.two 0 (.one 2 (.one 3 (.calm 4 (.calm 5 (.calm 6 (.calm 7 (.calm 8 (.calm 9 (.calm 10 (.done)))))))))) 2 (.one 0 (.one 3 (.calm 4 (.calm 5 (.calm 6 (.calm 7 (.calm 8 (.calm 9 (.calm 10 (.done)))))))))))) (sub_pick [6] (by decide) rfl) (by kernel_rfl) (by kernel_rfl) (by intro c a d v w h; cases d <;> exact h) ?_
  repeat(first|((first|refine TW_plain rfl rfl ?_|refine TW_gmet rfl rfl rfl rfl ?_);first|refine QW QP ?_|refine QW (rr_loadB (i := 0) TyC.ty rfl rfl rfl) ?_|refine QW (rr_not rfl rfl) ?_|refine QW QnT ?_|refine QW QnF ?_|refine QW QL ?_|refine QW QA ?_)|refine TW_skip rfl rfl rfl rfl rfl rfl rfl ?_|refine TW_done ?_)
  refine TW_two rfl rfl ?bs1 ?bs2
  case' bs1 =>
    refine TL_call (he0 EntersC.en rfl) (fun w hm => brackets_calls w) rfl rfl rfl ?_
    rintro ⟨vb2, F2⟩ _
    conv=>arg 8;simp only[zA,zB,zC,zD,zE,zF,zG,zH,zI,rowS,ret,id_eq, gramS]
    conv => arg 7; simp only [gramS]
    refine TW_on (sub_pick [6] (by decide) rfl) ?_
    refine TW_one rfl (TL_litV [.int .i64 0, .int .i64 1] rfl rfl rfl (by intro v hv; simp at hv; rcases hv with rfl | rfl <;> rfl) rfl rfl fun g24 => ?_)
    conv=>arg 8;simp only[zA,zB,zC,zD,zE,zF,zG,zH,zI,rowS,ret,id_eq]
    refine TL_toRow (i := 8) (m := 2) 1 rfl rfl (by omega) ?_
    conv=>arg 8;simp only[zA,zB,zC,zD,zE,zF,zG,zH,zI,rowS,ret,id_eq]
    refine TW_on (sub_pick [6] (by decide) rfl) ?_
    refine TW_one rfl (TL_call (he3 EntersC.en rfl rfl rfl rfl) (fun w hm => built_calls _ _ _ brkG 2 1 _ _ [0, 1] w (prodsO_gra ok2 ok1 (hm.get (i := 7) rfl)) (tabR_of (x := ⟨_, vas, FA, _, vgs, FG⟩) (hm.get (i := 2) rfl) (hm.get (i := 3) rfl) (hm.get (i := 4) rfl) (hm.get (i := 5) rfl)) (Sl.of_own (hm.get (i := 8) rfl)) brk_tab (by decide) (by decide)) rfl rfl rfl ?_)
  case' bs2 =>
    refine TL_litV [.int .i64 0, .int .i64 1] rfl rfl rfl (by intro v hv; simp at hv; rcases hv with rfl | rfl <;> rfl) rfl rfl fun g24 => ?_
    conv=>arg 8;simp only[zA,zB,zC,zD,zE,zF,zG,zH,zI,rowS,ret,id_eq]
    refine TL_toRow (i := 7) (m := 2) 1 rfl rfl (by omega) ?_
    conv=>arg 8;simp only[zA,zB,zC,zD,zE,zF,zG,zH,zI,rowS,ret,id_eq]
    refine TW_on (sub_pick [6] (by decide) rfl) ?_
    refine TW_one rfl (TL_call (he0 EntersC.en rfl) (fun w hm => brackets_calls w) rfl rfl rfl ?_)
    rintro ⟨vb2, F2⟩ _
    conv=>arg 8;simp only[zA,zB,zC,zD,zE,zF,zG,zH,zI,rowS,ret,id_eq, gramS]
    conv => arg 7; simp only [gramS]
    refine TW_on (sub_pick [6] (by decide) rfl) ?_
    refine TW_one rfl (TL_call (he3 EntersC.en rfl rfl rfl rfl) (fun w hm => built_calls _ _ _ brkG 2 1 _ _ [0, 1] w (prodsO_gra ok2 ok1 (hm.get (i := 8) rfl)) (tabR_of (x := ⟨_, vas, FA, _, vgs, FG⟩) (hm.get (i := 2) rfl) (hm.get (i := 3) rfl) (hm.get (i := 4) rfl) (hm.get (i := 5) rfl)) (Sl.of_own (hm.get (i := 7) rfl)) brk_tab (by decide) (by decide)) rfl rfl rfl ?_)
  all_goals
    intro vo _
    conv=>arg 8;simp only[zA,zB,zC,zD,zE,zF,zG,zH,zI,rowS,ret,id_eq, climbedS]
    conv => arg 7; simp only [climbedS]
    obtain ⟨b1, b2, b3⟩ := brk_run
    generalize bRun brkG.prods (actT (actTab brkP 2 brkNx brkSt 10)) (gotoT (gotoTab 2 brkNx 10)) 2 [0, 1] [0] 0 [] = R0 at *
    obtain ⟨l0, r0⟩ := R0
    dsimp only at b1 b2 b3
    subst b1
    dsimp only
    refine TL_know (i := 9) (φ := ∃ G cap, vo = .slice (gA G) l0.length cap ∧ (G = none → cap = 0) ∧ l0.length ≤ cap) rfl (fun w h => by obtain ⟨G, cap, k1, k2, _, k4⟩ := row_form h; exact ⟨G, cap, k1, k4, k2⟩) fun hvw => ?_
    obtain ⟨G, cap, rfl, hG, hcap⟩ := hvw
    obtain ⟨gq, rfl⟩ : ∃ gq, G = some gq := by
      cases G with
      | none => have := hG rfl; omega
      | some gq => exact ⟨gq, rfl⟩
    refine TW_on (sub_pick [6] (by decide) rfl) ?_
    repeat(first|((first|refine TW_plain rfl rfl ?_|refine TW_gmet rfl rfl rfl rfl ?_);first|refine QW QP ?_|refine QW (rr_not rfl rfl) ?_|refine QW QnT ?_|refine QW QnF ?_|refine QW QL ?_|refine QW QA ?_)|refine TW_skip rfl rfl rfl rfl rfl rfl rfl ?_|refine TW_done ?_)
    refine E_pick [0, 6, 9] (by decide) rfl ?_
    have h8 : 0 < l0.length := by omega
    have hat := fun (L : List Own) (hL : L[2]? = some (evO (.slice (gA (some gq)) l0.length cap) l0)) => at_rowel (W := (w : Base)) (L := L) (f := symC) (c := 2) (fun _ => rfl) hL (k := 0) h8 1 (.int .i64 0) (by have e : l0[0]? = some (2, 0) := b3; rw [List.getElem?_eq_getElem h8] at e; rw [Option.some.inj e]; rfl)
    repeat(first|refine QV QP ?_|refine QZ ?_|refine qcT rfl ?_|refine qcF rfl ?_|refine qs rfl rfl rfl rfl rfl rfl ?_|((try refine qg rfl rfl rfl ?_);first|refine QV QP ?_|refine QV (rr_len Und.eq rfl) ?_|refine QV (rr_neq (b := false) rfl rfl (decide_eq_false (by omega))) ?_|refine QV (rr_load1 TyC.ty rfl (hat _ rfl)) ?_|refine QV (rr_not rfl rfl) ?_|refine QV QnT ?_|refine QV QnF ?_|refine QV (rr_idx (r := 0) Und.eq TyC.ty rfl rfl (by omega) (by omega) rfl) ?_|refine QV QL ?_|refine QV QA ?_))
    refine TL_pick [0, 1] (by decide) rfl ?_
    repeat(first|refine QV QP ?_|refine QZ ?_|refine qcT rfl ?_|refine qcF rfl ?_|refine qs rfl rfl rfl rfl rfl rfl ?_|((try refine qg rfl rfl rfl ?_);first|refine QV QP ?_|refine QV (rr_loadB (i := 0) TyC.ty rfl rfl rfl) ?_|refine QV (rr_not rfl rfl) ?_|refine QV QnT ?_|refine QV QnF ?_|refine QV QL ?_|refine QV QA ?_))
    refine TL_call (he1 EntersC.en rfl rfl) (fun w' hm => hA w' hm.below) rfl rfl rfl ?_
    rintro x2 _
    unfold calmS tabL
    conv=>arg 8;simp only[zA,zB,zC,zD,zE,zF,zG,zH,zI,rowS,ret,id_eq]
    cases hc : calmB g
    · generalize outT g = R at *
      refine TL_know (i := 2) rfl (fun w h => row_slm w h) fun hrow => ?_
      obtain ⟨aA2, cA2, hvA2, -⟩ := hrow
      refine TL_know (i := 4) rfl (fun w h => row_slm w h) fun hrow => ?_
      obtain ⟨aG2, cG2, hvG2, -⟩ := hrow
      obtain ⟨vA2, vas2, FA2, vG2, vgs2, FG2⟩ := x2
      dsimp only at hvA2 hvG2 ⊢
      subst hvA2 hvG2
      repeat(first|refine QV QP ?_|refine QZ ?_|refine qcT rfl ?_|refine qcF rfl ?_|refine qs rfl rfl rfl rfl rfl rfl ?_|((try refine qg rfl rfl rfl ?_);first|refine QV QP ?_|refine QV (rr_not rfl rfl) ?_|refine QV QnT ?_|refine QV QnF ?_|refine QV QL ?_|refine QV QA ?_))
      refine TL_storeB (i := 1) rfl rfl rfl rfl rfl rfl ?_
      conv=>arg 8;simp only[zA,zB,zC,zD,zE,zF,zG,zH,zI,rowS,ret,id_eq]
      repeat(first|refine QV QP ?_|refine QZ ?_|refine qcT rfl ?_|refine qcF rfl ?_|refine qs rfl rfl rfl rfl rfl rfl ?_|((try refine qg rfl rfl rfl ?_);first|refine QV QP ?_|refine QV (rr_loadB (i := 0) TyC.ty rfl rfl rfl) ?_|refine QV (rr_not rfl rfl) ?_|refine QV QnT ?_|refine QV QnF ?_|refine QV QL ?_|refine QV QA ?_))
      refine TL_call (he2 EntersC.en rfl rfl rfl) (fun w hm => hT _ hm.below) rfl rfl rfl ?_
      intro _ _
      conv=>arg 8;simp only[zA,zB,zC,zD,zE,zF,zG,zH,zI,rowS,ret,id_eq]
      repeat(first|refine QV QP ?_|refine QZ ?_|refine qcT rfl ?_|refine qcF rfl ?_|refine qs rfl rfl rfl rfl rfl rfl ?_|((try refine qg rfl rfl rfl ?_);first|refine QV QP ?_|refine QV (rr_not rfl rfl) ?_|refine QV QnT ?_|refine QV QnF ?_|refine QV QL ?_|refine QV QA ?_))
      exact E_ret1 rfl rfl fun w hm => hm.ret
    · obtain ⟨T, N, Nx, S, hMd⟩ := calm_made hc
      rw [hMd.acts, hMd.gos]
      have hsnd := fun hW => bR_sound hMd (W := word) hW
      have hdet := fun hW t => bR_det hMd hc (W := word) hW (t := t)
      have herr := bRun_err (l := g.prods) (act := actT (actTab g.prods T Nx S S.length)) (gt := gotoT (gotoTab T Nx S.length)) (T := T) word [0] 0 []
      have htab := hMd.tab
      have htm := hMd.terms
      have hnn := hMd.nons
      have hgr := hMd.gram
      unfold bR at hsnd hdet
      clear hMd hA
      generalize actTab g.prods T Nx S S.length = A2 at *
      generalize gotoTab T Nx S.length = G2 at *
      refine TL_know (i := 2) rfl (fun w h => row_slm w h) fun hrow => ?_
      obtain ⟨aA2, cA2, hvA2, -⟩ := hrow
      refine TL_know (i := 4) rfl (fun w h => row_slm w h) fun hrow => ?_
      obtain ⟨aG2, cG2, hvG2, -⟩ := hrow
      obtain ⟨vA2, vas2, FA2, vG2, vgs2, FG2⟩ := x2
      dsimp only at hvA2 hvG2 ⊢
      subst hvA2 hvG2
      repeat(first|refine QV QP ?_|refine QZ ?_|refine qcT rfl ?_|refine qcF rfl ?_|refine qs rfl rfl rfl rfl rfl rfl ?_|((try refine qg rfl rfl rfl ?_);first|refine QV QP ?_|refine QV (rr_not rfl rfl) ?_|refine QV QnT ?_|refine QV QnF ?_|refine QV QL ?_|refine QV QA ?_))
      refine TL_storeB (i := 1) rfl rfl rfl rfl rfl rfl ?_
      conv=>arg 8;simp only[zA,zB,zC,zD,zE,zF,zG,zH,zI,rowS,ret,id_eq]
      repeat(first|refine QV QP ?_|refine QZ ?_|refine qcT rfl ?_|refine qcF rfl ?_|refine qs rfl rfl rfl rfl rfl rfl ?_|((try refine qg rfl rfl rfl ?_);first|refine QV QP ?_|refine QV (rr_loadB (i := 0) TyC.ty rfl rfl rfl) ?_|refine QV (rr_not rfl rfl) ?_|refine QV QnT ?_|refine QV QnF ?_|refine QV QL ?_|refine QV QA ?_))
      refine TL_call (he2 EntersC.en rfl rfl rfl) (fun w hm => hT _ hm.below) rfl rfl rfl ?_
      intro _ _
      conv=>arg 8;simp only[zA,zB,zC,zD,zE,zF,zG,zH,zI,rowS,ret,id_eq]
      by_cases c1 : checkC g word = 0
      · obtain ⟨_, k1, k2⟩ := checkC_ok c1
        have hw : ∀ x ∈ word, 0 ≤ x ∧ x < (T : Int) := by
          intro x hx
          rw [← htm]; exact k2 x hx
        have hsnd := hsnd hw
        have hdet := hdet hw
        repeat(first|refine QV QP ?_|refine QZ ?_|refine qcT rfl ?_|refine qcF rfl ?_|refine qs rfl rfl rfl rfl rfl rfl ?_|((try refine qg rfl rfl rfl ?_);first|refine QV QP ?_|refine QV (rr_neq (b := false) rfl rfl (decide_eq_false (by omega))) ?_|refine QV (rr_loadB (i := 0) TyC.ty rfl rfl rfl) ?_|refine QV (rr_loadB (i := 1) TyC.ty rfl rfl rfl) ?_|refine QV (rr_not rfl rfl) ?_|refine QV QnT ?_|refine QV QnF ?_|refine QV QL ?_|refine QV QA ?_))
        refine TL_call (he3 EntersC.en rfl rfl rfl rfl) (fun w' hm => hC _ T N A2 G2 w' hm.below (tabR_of (x := ⟨_, vas2, FA2, _, vgs2, FG2⟩) (hm.get (i := 2) rfl) (hm.get (i := 3) rfl) (hm.get (i := 4) rfl) (hm.get (i := 5) rfl)) htab hw (by omega)) rfl rfl rfl ?_
        intro vl _
        conv=>arg 8;simp only[zA,zB,zC,zD,zE,zF,zG,zH,zI,rowS,ret,id_eq, climbedS]
        conv => arg 7; simp only [climbedS]
        clear hC
        generalize bRun g.prods (actT A2) (gotoT G2) T word [0] 0 [] = R at *
        obtain ⟨l, had, e⟩ := R
        dsimp only at *
        repeat(first|refine QV QP ?_|refine QZ ?_|refine qcT rfl ?_|refine qcF rfl ?_|refine qs rfl rfl rfl rfl rfl rfl ?_|((try refine qg rfl rfl rfl ?_);first|refine QV QP ?_|refine QV (rr_loadB (i := 0) TyC.ty rfl rfl rfl) ?_|refine QV (rr_not rfl rfl) ?_|refine QV QnT ?_|refine QV QnF ?_|refine QV QL ?_|refine QV QA ?_))
        refine TL_call (he6 EntersC.en rfl rfl rfl rfl rfl rfl rfl) (fun w' hm => hP vl l had e w' hm.below (Sl.of_own (hm.get (i := 6) rfl)) c1 (fun hz => by
          rcases herr with h | h | h
          · obtain ⟨t, t1, t2, t3⟩ := hsnd h
            have := right_der t1
            rw [yieldX_top t1, t3] at this
            have := (trees_der c1).2 this
            omega
          · exact .inr h
          · exact .inl h) (fun t t1 t2 => by
          obtain ⟨z1, z2, z3, z4⟩ := checkT_iff.1 t1
          rcases hdet t z2 t2 with h | ⟨h1, h2, h3⟩
          · exact .inl h
          · exact .inr ⟨h1, h3, by rw [if_neg (by decide)]; exact h2⟩)) rfl rfl rfl ?_
        intro _ _
        repeat(first|refine QV QP ?_|refine QZ ?_|refine qcT rfl ?_|refine qcF rfl ?_|refine qs rfl rfl rfl rfl rfl rfl ?_|((try refine qg rfl rfl rfl ?_);first|refine QV QP ?_|refine QV (rr_not rfl rfl) ?_|refine QV QnT ?_|refine QV QnF ?_|refine QV QL ?_|refine QV QA ?_))
        exact E_ret1 rfl rfl fun w hm => hm.ret
      · repeat(first|refine QV QP ?_|refine QZ ?_|refine qcT rfl ?_|refine qcF rfl ?_|refine qs rfl rfl rfl rfl rfl rfl ?_|((try refine qg rfl rfl rfl ?_);first|refine QV QP ?_|refine QV (rr_neq (b := true) rfl rfl (decide_eq_true c1)) ?_|refine QV (rr_not rfl rfl) ?_|refine QV QnT ?_|refine QV QnF ?_|refine QV QL ?_|refine QV QA ?_))
        exact E_ret1 rfl rfl fun w hm => hm.ret
end Go.Proofs.Ytlojfbnimmdehaa.buildParses

