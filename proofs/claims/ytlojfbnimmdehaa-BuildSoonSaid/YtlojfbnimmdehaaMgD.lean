/- Part 4 of what BuildSoon needs: ItC, OrdK, OrdJ, ItH, ItN, StrK, MapN, ClassL, RexL, RexS, PlN, App, ClassB, PlR, ItO, Els, Fam, TreeS, FactsT, CountA, CountB, CountC, CountD, LlM, LrA, ItD, SortJ, ItE. -/
import Derived.Test.YtlojfbnimmdehaaMgC
import Derived.WalkKit
import Derived.WalkSpells
import Derived.WalkLawsBesides
import Derived.Deep.RegionLaw
import Derived.Deep.AppendLies
import Derived.Deep.QuietTactic
import Derived.BigQuiet
import Derived.Deep.DeepCutAuto
import Derived.Lib.Hide
import Derived.Test.YtlojfbnimmdehaaRows
import Derived.ProofKit
import Derived.OpenShut
import Derived.ShutString
import Derived.SizedLaws
import Derived.JoinedCond
import Derived.Deep.CondSized
import Derived.Deep.Quiet
import Derived.StillTail
import Derived.Deep.LoopGhost
import Derived.Laws.BitsLemmas
import Derived.Laws.BytesString
import Derived.Test.YtlojfbnimmdehaaProg
import Derived.Laws.StructEq
import Derived.Laws.MakeOwn
import Derived.Laws.AppendOwn
import Derived.Laws.Entries
import Derived.Maps.OwnSet
import Derived.DeepKeys4
import Derived.WideKeyEntry
import Derived.Sort.Grow
import Derived.Lib.Walk
import Derived.Deep.RegionWith
import Derived.Deep.RegionHeld
import Derived.StringKeys
import Derived.Laws.BitsAllLaws
import Derived.Shelf.SlGeneric
import Derived.Shelf.SlSortCmp.NoneTotal
import Derived.Ground.SlsfProg
/- ItC -/
namespace Go.Proofs.Ytlojfbnimmdehaa.eng
open Go.RowKit kit mix gramL treeL factsL itemL
/-! ### keys -/
abbrev RK := Int × Int
def rkV (x : RK) : Value := .agg #[.int .i64 x.1, .int .i64 x.2]
set_option maxRecDepth 100000 in
theorem rk_key (p : RK) (h : kit.okI64 p.1 ∧ kit.okI64 p.2) : ∃ l, keyOf Try.prog 200 (rkV p) = some l := by
  have e1 : Try.prog.cellsOf 200 = 2 := by kernel_rfl
  have e3 : Try.prog.cellsOf 3 = 1 := by kernel_rfl
  refine key_ex (cs := [.int .i64 p.1, .int .i64 p.2]) (m := 2) (by kernel_rfl) (by kernel_rfl) (by rw [e1]; rfl) (trySize 2 (by kernel_rfl)) fun d => ?_
  refine kl_struct (d := d + 1) Try.underlying200 (by rw [e1]; rfl) (by kernel_rfl) fun f hf => ?_
  simp only [List.mem_cons, List.not_mem_nil, or_false] at hf
  rcases hf with rfl | rfl
  · rw [e3]
    exact kl_int Try.underlying3 h.1.1 h.1.2
  · rw [e3]
    exact kl_int Try.underlying3 h.2.1 h.2.2
theorem rkRow : (200 : TypeId) < Try.prog.types.size := of_decide_eq_true (by kernel_rfl)
set_option maxRecDepth 100000 in
def restK : KeyT Try.prog 200 RK where
  kv := rkV
  ok p := kit.okI64 p.1 ∧ kit.okI64 p.2
  law := deep_law_laid tryLaid (m := 2) (by omega) rkRow (by kernel_rfl) (by kernel_rfl)
  key x h := rk_key x h
  inj x y h := by
    simp only [rkV, Value.agg.injEq, Array.mk.injEq, List.cons.injEq, Value.int.injEq, true_and, and_true] at h
    exact Prod.ext h.1 h.2
set_option maxRecDepth 100000 in
theorem it_key (p : itemL.Item) (h : kit.okI64 p.1 ∧ kit.okI64 p.2.1 ∧ kit.okI64 p.2.2) : ∃ l, keyOf Try.prog 60 (.agg (itC p).toArray) = some l := by
  have e1 : Try.prog.cellsOf 60 = 3 := by kernel_rfl
  have e3 : Try.prog.cellsOf 3 = 1 := by kernel_rfl
  refine key_ex (cs := itC p) (m := 2) (by kernel_rfl) (by kernel_rfl) (by rw [e1]; rfl) (trySize 2 (by kernel_rfl)) fun d => ?_
  refine kl_struct (d := d + 1) Try.underlying60 (by rw [e1]; rfl) (by kernel_rfl) fun f hf => ?_
  simp only [List.mem_cons, List.not_mem_nil, or_false] at hf
  rcases hf with rfl | rfl | rfl
  · rw [e3]
    exact kl_int Try.underlying3 h.1.1 h.1.2
  · rw [e3]
    exact kl_int Try.underlying3 h.2.1.1 h.2.1.2
  · rw [e3]
    exact kl_int Try.underlying3 h.2.2.1 h.2.2.2
theorem itRow : (60 : TypeId) < Try.prog.types.size := of_decide_eq_true (by kernel_rfl)
set_option maxRecDepth 100000 in
def itK : KeyT Try.prog 60 itemL.Item where
  kv x := .agg (itC x).toArray
  ok p := kit.okI64 p.1 ∧ kit.okI64 p.2.1 ∧ kit.okI64 p.2.2
  law := deep_law_laid tryLaid (m := 2) (by omega) itRow (by kernel_rfl) (by kernel_rfl)
  key x h := it_key x h
  inj x y h := by
    simp only [itC, Value.agg.injEq, Array.mk.injEq, List.cons.injEq, Value.int.injEq, true_and, and_true] at h
    exact Prod.ext h.1 (Prod.ext h.2.1 h.2.2)
theorem rk_ok {a b : Nat} (ha : a ≤ 9223372036854775807) (hb : b ≤ 9223372036854775807) : restK.ok ((a : Int), (b : Int)) := by
  show kit.okI64 (a : Int) ∧ kit.okI64 (b : Int)
  exact ⟨⟨by omega, by omega⟩, ⟨by omega, by omega⟩⟩
theorem zero_u64 (w : World) : (zeroValue 97).run Try.prog w = .ok (.int .u64 0) w := by kernel_rfl
theorem zero_i64 (w : World) : (zeroValue 3).run Try.prog w = .ok (.int .i64 0) w := by kernel_rfl
/-! ### bits -/
theorem bits_andnX {x : Nat} (hx : x < 18446744073709551616) (h : x.testBit 62 = true) : bits .andNot .u64 (x : Int) 4611686018427387904 = ((x ^^^ 2 ^ 62 : Nat) : Int) := by
  have e0 : (4611686018427387904 : Int) = ((2 ^ 62 : Nat) : Int) := by decide
  rw [e0]
  show IntKind.u64.wrap ((BitVec.ofInt 64 (x : Int) &&& ~~~ BitVec.ofInt 64 ((2 ^ 62 : Nat) : Int)).toNat : Int) = _
  have hlt : x ^^^ 2 ^ 62 < 2 ^ 64 := Nat.xor_lt_two_pow hx (by decide)
  have e : BitVec.ofInt 64 (x : Int) &&& ~~~ BitVec.ofInt 64 ((2 ^ 62 : Nat) : Int) = BitVec.ofNat 64 (x ^^^ 2 ^ 62) := by
    rw [BitVec.ofInt_natCast, BitVec.ofInt_natCast]
    ext i hi
    simp only [BitVec.getElem_and, BitVec.getElem_not]
    rw [← BitVec.getLsbD_eq_getElem, ← BitVec.getLsbD_eq_getElem, ← BitVec.getLsbD_eq_getElem, BitVec.getLsbD_ofNat, BitVec.getLsbD_ofNat, BitVec.getLsbD_ofNat]
    simp only [hi, decide_true, Bool.true_and, Nat.testBit_xor, Nat.testBit_two_pow]
    by_cases e : 62 = i
    · subst e; rw [h]; decide
    · rw [decide_eq_false e]; simp
  rw [e, BitVec.toNat_ofNat, Nat.mod_eq_of_lt hlt, IntKind.wrap_u64]
  omega
theorem shrU2 {P : Program} (x j b : Nat) (k k' : IntKind) (hb : k.bits = b) (hj : j ≤ b) (w : World) : (Op.shift .shr k (x : Int) k' (j : Int)).run P w = .ok (.int k ((x / 2 ^ j : Nat) : Int)) w := by
  have e : min j b = j := by omega
  have h0 : ¬ ((j : Int) < 0) := by omega
  have e2 : (x : Int).fdiv (2 ^ j) = ((x / 2 ^ j : Nat) : Int) := by
    rw [Int.fdiv_eq_ediv_of_nonneg _ (by have : (0 : Int) < 2 ^ j := Int.pow_pos (by decide); omega)]
    simp
  simp only [Op.shift, if_neg h0, hb, Int.toNat_natCast, e, e2, Sem.run_pure]
theorem and1 {y : Nat} (hy : y < 18446744073709551616) : bits .and .u64 (y : Int) 1 = ((y % 2 : Nat) : Int) := by
  have h := bits_nat .u64 64 (by decide) (fun n h0 h1 => by rw [IntKind.wrap_u64]; omega) y 1 (by simpa using hy) (by decide)
  rw [Nat.and_one_is_mod] at h
  exact h.1
theorem bit_dec (x k : Nat) : x.testBit k = decide (x / 2 ^ k % 2 = 1) := Nat.testBit_eq_decide_div_mod_eq ..
def lkG (g : Gram) (p d : Int) : Nat := begV g ((bodyI g.prods p).drop (d.toNat + 1)) 4611686018427387904
theorem begV_lt {g : Gram} {body : List Sym} {behind : Nat} (hb : behind < 18446744073709551616) : begV g body behind < 18446744073709551616 := by
  unfold begV
  by_cases c : begE g body = 0
  · rw [if_pos c]
    have hg : checkG g = 0 := by
      unfold begE at c
      by_cases c2 : checkG g = 0
      · exact c2
      · rw [if_pos c2] at c; exact c
    have h60 : ¬ 60 < body.length := fun h => by
      unfold begE at c
      rw [if_neg (by simpa using hg), if_pos h] at c; cases c
    have hbad : badE g.terms g.nons body = 0 := by
      unfold begE at c
      rw [if_neg (by simpa using hg), if_neg h60] at c; exact c
    have hn := (checkG_ok hg).2.2.1
    have ht := (checkG_ok hg).2.1
    refine beginF_lt (ofW_ok hg (n := g.nons.toNat) (by omega)).2 hb fun x hx h1 => ?_
    rcases right_cases (badE_ok hbad x hx) with h | h
    · omega
    · omega
  · rw [if_neg c]; decide
/-! ### looks -/
def opC (t n : Int) (vp : Value) (gm : Nat) : List Value := [.int .i64 t, .int .i64 n, vp, .map (some gm)]
def CacheOk (lk : Int → Int → Nat) (f : RK → Option Value) : Prop := ∀ x v, f x = some v → v = bitV (lk x.1 x.2)
theorem build_rest (a b : Int) (w : World) : (Instr.build 200 #[(0, .int .i64 a), (1, .int .i64 b)]).run Try.prog w = .ok (.agg #[.int .i64 a, .int .i64 b]) w := by go_simp
theorem CacheOk.put {lk : Int → Int → Nat} {f : RK → Option Value} (h : CacheOk lk f) (x : RK) : CacheOk lk (fun y => if y = x then some (bitV (lk x.1 x.2)) else f y) := by
  intro y v hv
  dsimp only at hv
  by_cases c : y = x
  · rw [if_pos c] at hv
    cases hv; rw [c]
  · rw [if_neg c] at hv; exact h y v hv
theorem SymC_len (a : Sym) : (symC a).length = 2 := rfl
theorem op_gram {t n : Int} {vp v : Value} {gm j : Nat} (h : [.int .i64 t, .int .i64 n, vp][j]? = some v) : (opC t n vp gm).toArray[0 + j]? = some v := by
  rw [Nat.zero_add]
  match j, h with
  | 0, h => exact h
  | 1, h => exact h
  | 2, h => exact h
/-- a body as a slice -/
theorem body_slL {l : List gramL.Prod} {w0 : World} {W : Base} {L : List Own} {vb : Nat → Value} {k i : Nat} {x : Option Nat} (ho : Old w0 W) (hv : BodR (fun q => q < w0.heap.size) w0 vb l) (hk : k ≤ l.length) (hx : x.isSome = decide (k = l.length)) (hi : L[i]? = some (bodO x)) : ∃ b c, bodV vb k x = .slice b (bodyI l (k : Int)).length c ∧ (bodyI l (k : Int)).length ≤ c ∧ SlL W L (bodV vb k x) (bodyI l (k : Int)).length ((bodyI l (k : Int)).flatMap symC) := by
  cases x with
  | some g =>
    have hk : k = l.length := by simpa using hx
    subst hk
    have e : bodyI l (l.length : Int) = [(2, 0)] := by unfold bodyI; rw [if_pos rfl]
    rw [e]
    exact ⟨_, _, rfl, Nat.le_refl _, sl_blk hi (fun j u h => by simpa [symC] using h) (Nat.le_refl _) (by decide)⟩
  | none =>
    have hk' : k < l.length := by
      have : ¬ k = l.length := by simpa using hx
      omega
    have e : bodyI l (k : Int) = (prodAt l (k : Int)).2 := by unfold bodyI; rw [if_neg (by omega)]
    rw [e]
    have h := hv k hk'
    have hs := h.flat (f := symC) (by decide)
    obtain ⟨b, c, e2, e3, _⟩ := id h
    exact ⟨b, c, e2, e3, fun w hm => hs.gr (ho.mem hm)⟩
attribute [local irreducible] Op.shift Go.bits in
set_option maxHeartbeats 8000000 in
theorem looks_calls (g : Gram) (hg : checkG g = 0) (bp : Option Addr) (cp : Nat) (vb : Nat → Value) (w0 : World) (hG : GraR (fun q => q < w0.heap.size) w0 (graV g.terms g.nons (.slice bp g.prods.length cp)) g) (hvb : BodR (fun q => q < w0.heap.size) w0 vb g.prods) (hrp : 0 < g.prods.length → ∃ b off, bp = some ⟨b, off, none⟩ ∧ ∀ i, i < g.prods.length → Rd w0 b (off + i * 2) [.int .i64 (prodAt g.prods (i : Int)).1, vb i])
    (go gm c : Nat) (f : RK → Option Value) (it : itemL.Item) (T : Nat) (hT : T ≤ 30) (hr : RightI g.prods T it) (hd : it.2.1.toNat < (bodyI g.prods it.1).length) (hc : CacheOk (lkG g) f) (hcc : c ≤ 1000000000000000) (w : World) (B : Base) (ho : Old w0 B)
    (hm : Mem B [blkO go (opC g.terms g.nons (.slice bp g.prods.length cp) gm).toArray 164, mapO restK gm f c] w) :
    Calls Try.prog 83 #[.pointer (some ⟨go, 0, none⟩), .agg (itC it).toArray] w (MeetsB ⟨fun (x : (RK → Option Value) × Nat) => CacheOk (lkG g) x.1 ∧ x.2 ≤ c + 1, fun _ => bitV (looksI (lkG g) it), fun x => [blkO go (opC g.terms g.nons (.slice bp g.prods.length cp) gm).toArray 164, mapO restK gm x.1 x.2]⟩ B) := by
  obtain ⟨p, d, lo⟩ := it
  obtain ⟨r1, r2, r3, r4, r5, r6⟩ := hr
  dsimp only at r1 r2 r3 r4 r5 r6 hd
  obtain ⟨k, rfl⟩ := Int.eq_ofNat_of_zero_le r1
  obtain ⟨dn, rfl⟩ := Int.eq_ofNat_of_zero_le r3
  obtain ⟨ln, rfl⟩ := Int.eq_ofNat_of_zero_le r5
  rw [Int.toNat_natCast] at hd
  have hk : k ≤ g.prods.length := by omega
  have hbd := fun w' (hm' : Mem B [] w') => itBody_calls g.terms g.nons bp cp g.prods vb w0 w' B k hk ho hm' (fun i hi => let ⟨b, c, h, _⟩ := hvb i hi; ⟨b, _, c, h⟩) hrp
  have hbg := fun vs body w' (hm' : Gr w0 w') hs => factsBegin_calls _ vs g body 4611686018427387904 w' (hG.gr hm') hs (by decide)
  have hbr := build_rest (k : Int) (dn : Int)
  have hlt : lkG g (k : Int) (dn : Int) < 18446744073709551616 := begV_lt (by decide)
  have hb8 := body_len (l := g.prods) (p := (k : Int)) (fun q hq => ((checkG_ok hg).2.2.2.2.2 q hq).1)
  refine enterB hm (args := [.pointer (some ⟨go, 0, none⟩), .agg (itC ((k : Int), (dn : Int), (ln : Int))).toArray]) (n := 61) Try.func83 rfl rfl rfl ?_
  refine T_seq (T_region (TL_box rfl rfl rfl fun g3 => ?_))
  conv=>arg 8;simp only[zA,zB,zC,zD,zE,zF,zG,zH,zI,rowS,ret,id_eq]
  repeat(first|refine QV QP ?_|refine QZ ?_|refine qcT rfl ?_|refine qcF rfl ?_|refine QV (rr_load1 (v := .int .i64 (k : Int)) TyC.ty rfl (at_blk (i := 2) rfl rfl)) ?_|refine QV (rr_load1 (v := .int .i64 (dn : Int)) TyC.ty rfl (at_blk (i := 2) rfl rfl)) ?_|refine QV (rr_build rfl hbr) ?_|refine QV QA ?_|refine QV (rr_not rfl rfl) ?_|refine QV (rr_nilc rfl) ?_|refine QV QeT ?_|refine QV QeF ?_|refine QV QaA ?_)
  refine TL_new rfl fun g5 => ?_
  conv=>arg 8;simp only[zA,zB,zC,zD,zE,zF,zG,zH,zI,rowS,ret,id_eq]
  refine TL_storeB (i := 3) (cs' := #[.int .i64 (k : Int), .int .i64 (dn : Int)]) rfl rfl rfl rfl rfl rfl ?_
  conv=>arg 8;simp only[zA,zB,zC,zD,zE,zF,zG,zH,zI,rowS,ret,id_eq]
  have hrk : restK.ok ((k : Int), (dn : Int)) := rk_ok (by have := (checkG_ok hg).2.2.2.2.1; omega) (by omega)
  have hrk : restK.ok ((k : Int), (dn : Int)) := rk_ok (by have := (checkG_ok hg).2.2.2.2.1; omega) (by omega)
  have hrk : restK.ok ((k : Int), (dn : Int)) := rk_ok (by have := (checkG_ok hg).2.2.2.2.1; omega) (by omega)
  have hrk : restK.ok ((k : Int), (dn : Int)) := rk_ok (by have := (checkG_ok hg).2.2.2.2.1; omega) (by omega)
  have hcp := hc.put ((k : Int), (dn : Int))
  have hlk : lkG g (k : Int) (dn : Int) = begV g ((bodyI g.prods (k : Int)).drop (dn + 1)) 4611686018427387904 := by unfold lkG; rw [Int.toNat_natCast]
  have hc1 := hc ((k : Int), (dn : Int))
  dsimp only at hcp hc1
  unfold looksI
  dsimp only
  rw [Int.toNat_natCast]
  generalize hB0 : lkG g (k : Int) (dn : Int) = B0 at *
  repeat(first|refine QV QP ?_|refine QZ ?_|refine qcT rfl ?_|refine qcF rfl ?_|refine QV QA ?_|refine QV (rr_not rfl rfl) ?_|refine QV (rr_nilc rfl) ?_|refine QV QeT ?_|refine QV QeF ?_|refine QV QaA ?_)
  cases hf : f ((k : Int), (dn : Int)) with
  | some v =>
    have hv := hc1 v hf
    subst hv
    clear hbd hbg hcp hc1
    refine T_ord ([blkO go (opC g.terms g.nons (.slice bp g.prods.length cp) gm).toArray 164, mapO restK gm f c, blkO g3 (Value.agg (itC ((k : Int), (dn : Int), (ln : Int))).toArray).cells 60, blkO g5 #[.int .i64 (k : Int), .int .i64 (dn : Int)] 200]) (.calm 0 (.calm 1 (.calm 2 (.calm 3 (.calm 4 (.calm 5 (.calm 6 (.calm 7 (.calm 8 (.calm 9 (.calm 10 (.done)))))))))))) (fun _ h => h) (by kernel_rfl) (by kernel_rfl) (by intro c a d v w h; cases d <;> exact h) ?_
    repeat(first|((first|refine TW_plain rfl rfl ?_|refine TW_gmet rfl rfl rfl rfl ?_);first|refine QW QP ?_|refine QW (rr_load1 (v := .map (some gm)) TyC.ty rfl (at_blk (i := 0) rfl rfl)) ?_|refine QW (rr_loadB (i := 3) TyC.ty rfl rfl rfl) ?_|refine QW (rr_lookOk (x := ((k : Int), (dn : Int))) restK Und.eq zero_u64 (i := 1) rfl rfl rfl hrk) ?_|refine QW QA ?_|refine QW (rr_not rfl rfl) ?_|refine QW (rr_nilc rfl) ?_|refine QW QeT ?_|refine QW QeF ?_|refine QW QaA ?_)|refine TW_done ?_)
    rw [hf]
    dsimp only [Option.getD, Option.isSome]
    repeat(first|refine QV QP ?_|refine QZ ?_|refine qcT rfl ?_|refine qcF rfl ?_|refine QV QA ?_|refine QV (rr_not rfl rfl) ?_|refine QV (rr_nilc rfl) ?_|refine QV QeT ?_|refine QV QeF ?_|refine QV QaA ?_)
    have hdv : B0 / 2 ^ 62 ≤ B0 := Nat.div_le_self _ _
    have ha1 := and1 (y := B0 / 2 ^ 62) (by omega)
    have hs1 : ∀ w, (Op.shift .shr .u64 (B0 : Int) .u64 62).run Try.prog w = .ok (.int .u64 ((B0 / 2 ^ 62 : Nat) : Int)) w := fun w => shrU2 B0 62 64 .u64 .u64 rfl (by decide) w
    have hsl : ∀ w, (Op.shift .shl .u64 1 .i64 (ln : Int)).run Try.prog w = .ok (.int .u64 ((2 ^ ln : Nat) : Int)) w := fun w => shl1 ln (by omega) w
    by_cases cb : B0.testBit 62 = true
    · rw [if_pos cb]
      have hn := bits_andnX hlt cb
      have hx2 : B0 ^^^ 2 ^ 62 < 18446744073709551616 := Nat.xor_lt_two_pow (n := 64) hlt (by decide)
      have hor := bits_orN hx2 (pow_lt64 (m := ln) (by omega))
      have hb1 : B0 / 2 ^ 62 % 2 = 1 := by rw [bit_dec] at cb; exact of_decide_eq_true cb
      generalize B0 / 2 ^ 62 = D1 at *
      generalize B0 ^^^ 2 ^ 62 = D2 at *
      generalize 2 ^ ln = D3 at *
      repeat(first|refine QV QP ?_|refine QZ ?_|refine qcT rfl ?_|refine qcF rfl ?_|refine QV (rr_shr rfl rfl hs1) ?_|refine QV (rr_and rfl rfl ha1) ?_|refine QV (rr_eql (b := false) rfl rfl (decide_eq_false (by omega))) ?_|refine QV (rr_andn rfl rfl hn) ?_|refine QV (rr_load1 (v := .int .i64 (ln : Int)) TyC.ty rfl (at_blk (i := 2) rfl rfl)) ?_|refine QV (rr_shl rfl rfl hsl) ?_|refine QV (rr_or rfl rfl hor) ?_|refine QV QA ?_|refine QV (rr_not rfl rfl) ?_|refine QV (rr_nilc rfl) ?_|refine QV QeT ?_|refine QV QeF ?_|refine QV QaA ?_)
      exact E_ret1 rfl rfl fun w hm => hm.meetsB (S := ⟨fun (x : (RK → Option Value) × Nat) => CacheOk (lkG g) x.1 ∧ x.2 ≤ c + 1, fun _ => bitV (D2 ||| D3), fun x => [blkO go (opC g.terms g.nons (.slice bp g.prods.length cp) gm).toArray 164, mapO restK gm x.1 x.2]⟩) (f, c) ⟨hc, by omega⟩ [0, 1] (by decide) rfl
    · rw [if_neg cb]
      have hb0 : B0 / 2 ^ 62 % 2 = 0 := by
        rw [bit_dec, decide_eq_true_eq] at cb; omega
      generalize B0 / 2 ^ 62 = D1 at *
      repeat(first|refine QV QP ?_|refine QZ ?_|refine qcT rfl ?_|refine qcF rfl ?_|refine QV (rr_shr rfl rfl hs1) ?_|refine QV (rr_and rfl rfl ha1) ?_|refine QV (rr_eql (b := true) rfl rfl (decide_eq_true (by omega))) ?_|refine QV QA ?_|refine QV (rr_not rfl rfl) ?_|refine QV (rr_nilc rfl) ?_|refine QV QeT ?_|refine QV QeF ?_|refine QV QaA ?_)
      exact E_ret1 rfl rfl fun w hm => hm.meetsB (S := ⟨fun (x : (RK → Option Value) × Nat) => CacheOk (lkG g) x.1 ∧ x.2 ≤ c + 1, fun _ => bitV B0, fun x => [blkO go (opC g.terms g.nons (.slice bp g.prods.length cp) gm).toArray 164, mapO restK gm x.1 x.2]⟩) (f, c) ⟨hc, by omega⟩ [0, 1] (by decide) rfl
  | none =>
    clear hc1
    refine T_ord ([blkO go (opC g.terms g.nons (.slice bp g.prods.length cp) gm).toArray 164, mapO restK gm f c, blkO g3 (Value.agg (itC ((k : Int), (dn : Int), (ln : Int))).toArray).cells 60, blkO g5 #[.int .i64 (k : Int), .int .i64 (dn : Int)] 200]) (.calm 0 (.calm 1 (.calm 2 (.calm 3 (.calm 4 (.calm 5 (.calm 6 (.calm 7 (.calm 8 (.calm 9 (.calm 10 (.done)))))))))))) (fun _ h => h) (by kernel_rfl) (by kernel_rfl) (by intro c a d v w h; cases d <;> exact h) ?_
    repeat(first|((first|refine TW_plain rfl rfl ?_|refine TW_gmet rfl rfl rfl rfl ?_);first|refine QW QP ?_|refine QW (rr_load1 (v := .map (some gm)) TyC.ty rfl (at_blk (i := 0) rfl rfl)) ?_|refine QW (rr_loadB (i := 3) TyC.ty rfl rfl rfl) ?_|refine QW (rr_lookOk (x := ((k : Int), (dn : Int))) restK Und.eq zero_u64 (i := 1) rfl rfl rfl hrk) ?_|refine QW QA ?_|refine QW (rr_not rfl rfl) ?_|refine QW (rr_nilc rfl) ?_|refine QW QeT ?_|refine QW QeF ?_|refine QW QaA ?_)|refine TW_done ?_)
    rw [hf]
    dsimp only [Option.getD, Option.isSome]
    repeat(first|refine QV QP ?_|refine QZ ?_|refine qcT rfl ?_|refine qcF rfl ?_|refine QV QA ?_|refine QV (rr_not rfl rfl) ?_|refine QV (rr_nilc rfl) ?_|refine QV QeT ?_|refine QV QeF ?_|refine QV QaA ?_)
    refine T_ord ([blkO go (opC g.terms g.nons (.slice bp g.prods.length cp) gm).toArray 164, blkO g3 (Value.agg (itC ((k : Int), (dn : Int), (ln : Int))).toArray).cells 60]) (.calm 0 (.calm 1 (.calm 2 (.calm 3 (.calm 4 (.calm 5 (.calm 6 (.calm 7 (.calm 8 (.calm 9 (.calm 11 (.calm 12 (.calm 13 (.one 10 (.calm 14 (.one 15 (.calm 16 (.calm 17 (.calm 18 (.calm 19 (.done))))))))))))))))))))) (sub_pick [0, 2] (by decide) rfl) (by kernel_rfl) (by kernel_rfl) (by intro c a d v w h; cases d <;> exact h) ?_
    repeat(first|((first|refine TW_plain rfl rfl ?_|refine TW_gmet rfl rfl rfl rfl ?_);first|refine QW QP ?_|refine QW (rr_loadN TyC.ty rfl (cs := [.int .i64 g.terms, .int .i64 g.nons, .slice bp g.prods.length cp]) rfl (fun j v h => at_blk (i := 0) rfl (op_gram h))) ?_|refine QW (rr_load1 (v := .int .i64 (k : Int)) TyC.ty rfl (at_blk (i := 1) rfl rfl)) ?_|refine QW (rr_load1 (v := .int .i64 (dn : Int)) TyC.ty rfl (at_blk (i := 1) rfl rfl)) ?_|refine QW (rr_add64 (r := ((dn + 1 : Nat) : Int)) rfl rfl (by omega) (by omega) (by omega)) ?_|refine QW QA ?_|refine QW (rr_not rfl rfl) ?_|refine QW (rr_nilc rfl) ?_|refine QW QeT ?_|refine QW QeF ?_|refine QW QaA ?_)|refine TW_done ?_)
    refine TW_one rfl ?_
    refine TL_call (he2 EntersC.en rfl rfl rfl) (fun w hm => hbd _ (hm.pick [] (by decide) rfl)) rfl rfl rfl ?_
    rintro x hx
    conv=>arg 8;simp only[zA,zB,zC,zD,zE,zF,zG,zH,zI,rowS,ret,id_eq, bodyS]
    conv => arg 7; simp only [bodyS]
    obtain ⟨bb, cc, hv, hlc, hsl⟩ := body_slL (W := B) (i := 4) (L := [blkO go (opC g.terms g.nons (.slice bp g.prods.length cp) gm).toArray 164, mapO restK gm f c, blkO g3 (Value.agg (itC ((k : Int), (dn : Int), (ln : Int))).toArray).cells 60, blkO g5 #[.int .i64 (k : Int), .int .i64 (dn : Int)] 200, bodO x]) ho hvb hk hx rfl
    rw [hv] at hsl ⊢
    have htk : ((bodyI g.prods (k : Int)).drop (dn + 1)).take ((bodyI g.prods (k : Int)).length - (dn + 1)) = (bodyI g.prods (k : Int)).drop (dn + 1) := List.take_of_length_le (by rw [List.length_drop]; exact Nat.le_refl _)
    have hsub := fun w hm => sl_sub (i := dn + 1) (j := (bodyI g.prods (k : Int)).length) SymC_len (hsl w hm) (by omega) (Nat.le_refl _)
    rw [htk] at hsub
    generalize hbl : (bodyI g.prods (k : Int)).length = m at *
    refine TW_on (sub_pick [0, 2] (by decide) rfl) ?_
    repeat(first|((first|refine TW_plain rfl rfl ?_|refine TW_gmet rfl rfl rfl rfl ?_);first|refine QW QP ?_|refine QW (rr_slfrom (i := dn + 1) Und.eq TyC.ty rfl rfl (by omega) hlc) ?_|refine QW QA ?_|refine QW (rr_not rfl rfl) ?_|refine QW (rr_nilc rfl) ?_|refine QW QeT ?_|refine QW QeF ?_|refine QW QaA ?_)|refine TW_done ?_)
    refine TW_one rfl ?_
    refine TL_call (he3 EntersC.en rfl rfl rfl rfl) (fun w hm => hbg _ _ _ (ho.mem hm) (hsub w hm)) rfl rfl rfl ?_
    intro _ _
    conv=>arg 8;simp only[zA,zB,zC,zD,zE,zF,zG,zH,zI,rowS,ret,id_eq]
    rw [← hlk]
    refine TW_on (sub_pick [0, 2] (by decide) rfl) ?_
    repeat(first|((first|refine TW_plain rfl rfl ?_|refine TW_gmet rfl rfl rfl rfl ?_);first|refine QW QP ?_|refine QW QA ?_|refine QW (rr_not rfl rfl) ?_|refine QW (rr_nilc rfl) ?_|refine QW QeT ?_|refine QW QeF ?_|refine QW QaA ?_)|refine TW_done ?_)
    repeat(first|refine QV QP ?_|refine QZ ?_|refine qcT rfl ?_|refine qcF rfl ?_|refine QV QA ?_|refine QV (rr_not rfl rfl) ?_|refine QV (rr_nilc rfl) ?_|refine QV QeT ?_|refine QV QeF ?_|refine QV QaA ?_)
    refine T_ord ([blkO go (opC g.terms g.nons (.slice bp g.prods.length cp) gm).toArray 164, blkO g5 #[.int .i64 (k : Int), .int .i64 (dn : Int)] 200]) (.calm 0 (.calm 1 (.calm 2 (.calm 3 (.calm 4 (.calm 5 (.one 6 (.done)))))))) (sub_pick [0, 3] (by decide) rfl) (by kernel_rfl) (by kernel_rfl) (by intro c a d v w h; cases d <;> exact h) ?_
    repeat(first|((first|refine TW_plain rfl rfl ?_|refine TW_gmet rfl rfl rfl rfl ?_);first|refine QW QP ?_|refine QW (rr_load1 (v := .map (some gm)) TyC.ty rfl (at_blk (i := 0) rfl rfl)) ?_|refine QW (rr_loadB (i := 1) TyC.ty rfl rfl rfl) ?_|refine QW QA ?_|refine QW (rr_not rfl rfl) ?_|refine QW (rr_nilc rfl) ?_|refine QW QeT ?_|refine QW QeF ?_|refine QW QaA ?_)|refine TW_done ?_)
    refine TW_one rfl ?_
    refine TL_mapSet (i := 1) (x := ((k : Int), (dn : Int))) (v := bitV B0) restK Und.eq rfl rfl rfl rfl hrk (by omega) ?_
    conv=>arg 8;simp only[zA,zB,zC,zD,zE,zF,zG,zH,zI,rowS,ret,id_eq]
    rw [hf]
    dsimp only [Option.isSome]
    refine TW_on (sub_pick [0, 3] (by decide) rfl) ?_
    repeat(first|((first|refine TW_plain rfl rfl ?_|refine TW_gmet rfl rfl rfl rfl ?_);first|refine QW QP ?_|refine QW QA ?_|refine QW (rr_not rfl rfl) ?_|refine QW (rr_nilc rfl) ?_|refine QW QeT ?_|refine QW QeF ?_|refine QW QaA ?_)|refine TW_done ?_)
    repeat(first|refine QV QP ?_|refine QZ ?_|refine qcT rfl ?_|refine qcF rfl ?_|refine QV QA ?_|refine QV (rr_not rfl rfl) ?_|refine QV (rr_nilc rfl) ?_|refine QV QeT ?_|refine QV QeF ?_|refine QV QaA ?_)
    have hdv : B0 / 2 ^ 62 ≤ B0 := Nat.div_le_self _ _
    have ha1 := and1 (y := B0 / 2 ^ 62) (by omega)
    have hs1 : ∀ w, (Op.shift .shr .u64 (B0 : Int) .u64 62).run Try.prog w = .ok (.int .u64 ((B0 / 2 ^ 62 : Nat) : Int)) w := fun w => shrU2 B0 62 64 .u64 .u64 rfl (by decide) w
    have hsl : ∀ w, (Op.shift .shl .u64 1 .i64 (ln : Int)).run Try.prog w = .ok (.int .u64 ((2 ^ ln : Nat) : Int)) w := fun w => shl1 ln (by omega) w
    by_cases cb : B0.testBit 62 = true
    · rw [if_pos cb]
      have hn := bits_andnX hlt cb
      have hx2 : B0 ^^^ 2 ^ 62 < 18446744073709551616 := Nat.xor_lt_two_pow (n := 64) hlt (by decide)
      have hor := bits_orN hx2 (pow_lt64 (m := ln) (by omega))
      have hb1 : B0 / 2 ^ 62 % 2 = 1 := by rw [bit_dec] at cb; exact of_decide_eq_true cb
      generalize B0 / 2 ^ 62 = D1 at *
      generalize B0 ^^^ 2 ^ 62 = D2 at *
      generalize 2 ^ ln = D3 at *
      repeat(first|refine QV QP ?_|refine QZ ?_|refine qcT rfl ?_|refine qcF rfl ?_|refine QV (rr_shr rfl rfl hs1) ?_|refine QV (rr_and rfl rfl ha1) ?_|refine QV (rr_eql (b := false) rfl rfl (decide_eq_false (by omega))) ?_|refine QV (rr_andn rfl rfl hn) ?_|refine QV (rr_load1 (v := .int .i64 (ln : Int)) TyC.ty rfl (at_blk (i := 2) rfl rfl)) ?_|refine QV (rr_shl rfl rfl hsl) ?_|refine QV (rr_or rfl rfl hor) ?_|refine QV QA ?_|refine QV (rr_not rfl rfl) ?_|refine QV (rr_nilc rfl) ?_|refine QV QeT ?_|refine QV QeF ?_|refine QV QaA ?_)
      exact E_ret1 rfl rfl fun w hm => hm.meetsB (S := ⟨fun (x : (RK → Option Value) × Nat) => CacheOk (lkG g) x.1 ∧ x.2 ≤ c + 1, fun _ => bitV (D2 ||| D3), fun x => [blkO go (opC g.terms g.nons (.slice bp g.prods.length cp) gm).toArray 164, mapO restK gm x.1 x.2]⟩) (_, c + 1) ⟨hcp, Nat.le_refl _⟩ [0, 1] (by decide) rfl
    · rw [if_neg cb]
      have hb0 : B0 / 2 ^ 62 % 2 = 0 := by
        rw [bit_dec, decide_eq_true_eq] at cb; omega
      generalize B0 / 2 ^ 62 = D1 at *
      repeat(first|refine QV QP ?_|refine QZ ?_|refine qcT rfl ?_|refine qcF rfl ?_|refine QV (rr_shr rfl rfl hs1) ?_|refine QV (rr_and rfl rfl ha1) ?_|refine QV (rr_eql (b := true) rfl rfl (decide_eq_true (by omega))) ?_|refine QV QA ?_|refine QV (rr_not rfl rfl) ?_|refine QV (rr_nilc rfl) ?_|refine QV QeT ?_|refine QV QeF ?_|refine QV QaA ?_)
      exact E_ret1 rfl rfl fun w hm => hm.meetsB (S := ⟨fun (x : (RK → Option Value) × Nat) => CacheOk (lkG g) x.1 ∧ x.2 ≤ c + 1, fun _ => bitV B0, fun x => [blkO go (opC g.terms g.nons (.slice bp g.prods.length cp) gm).toArray 164, mapO restK gm x.1 x.2]⟩) (_, c + 1) ⟨hcp, Nat.le_refl _⟩ [0, 1] (by decide) rfl
end Go.Proofs.Ytlojfbnimmdehaa.eng

/- OrdK -/
namespace Go.Proofs.Ytlojfbnimmdehaa.eng
open Go.RowKit kit mix itemL Go.Lib Go.Sort
theorem isNaN_k (x : Int) (w : World) : Calls Try.prog 139 #[.int .i64 x] w fun e w' => e = .returned (.bool false) ∧ w' = w := by
  go_enter Try.func139, Try.ntmps139
  go_wp2
  go_ret
  exact ⟨by simp, rfl⟩
set_option maxHeartbeats 1000000 in
theorem compare_k (x y : Int) (w : World) : Calls Try.prog 114 #[.int .i64 x, .int .i64 y] w fun e w' => e = .returned (.int .i64 (cmpI x y)) ∧ w' = w := by
  go_enter Try.func114, Try.ntmps114
  go_wp2_with (go_at_call 139; refine (isNaN_k _ _).mono ?_; rintro e w' ⟨rfl, hw⟩; rw [hw])
  all_goals (go_ret; refine ⟨?_, rfl⟩; unfold cmpI; (repeat' split) <;> first | rfl | (exfalso; omega))
def orI (a b c : Int) : Int := if a ≠ 0 then a else if b ≠ 0 then b else c
theorem orI_a {a b c : Int} (h : ¬ a = 0) : orI a b c = a := if_pos h
theorem orI_b {b c : Int} (h : ¬ b = 0) : orI 0 b c = b := by unfold orI; rw [if_neg (by simp), if_pos h]
theorem orI_c {c : Int} : orI 0 0 c = c := by unfold orI; rw [if_neg (by simp), if_neg (by simp)]
set_option maxHeartbeats 2000000 in
theorem or_k (g : Nat) (a b c : Int) (w : World) (h0 : w.cell? ⟨g, 0, none⟩ = some (.int .i64 a)) (h1 : w.cell? ⟨g, 1, none⟩ = some (.int .i64 b)) (h2 : w.cell? ⟨g, 2, none⟩ = some (.int .i64 c)) :
    Calls Try.prog 113 #[.slice (some ⟨g, 0, none⟩) 3 3] w fun e w' => e = .returned (.int .i64 (orI a b c)) ∧ w' = w := by
  go_enter Try.func113, Try.ntmps113
  go_wp2
  by_cases ha : a = 0
  · subst ha
    refine wp_loop_rounds 4 ?_
    rw [rounds_succ]
    go_wp2
    by_cases hb : b = 0
    · subst hb
      rw [rounds_succ]
      go_wp2
      by_cases hc : c = 0
      · subst hc
        rw [rounds_succ]
        go_wp2
        rw [rounds_succ]
        go_wp2
        go_ret
        exact ⟨by rw [orI_c]; rfl, rfl⟩
      · rw [rounds_succ]
        go_wp2
        go_ret
        exact ⟨by rw [orI_c]; rfl, rfl⟩
    · rw [rounds_succ]
      go_wp2
      go_ret
      exact ⟨by rw [orI_b hb]; rfl, rfl⟩
  · refine wp_loop_rounds 1 ?_
    rw [rounds_succ]
    go_wp2
    go_ret
    exact ⟨by rw [orI_a ha]; rfl, rfl⟩
theorem or_k2 (o1 o2 : Obj) (a b c : Int) (T : TypeId) (w : World) :
    Calls Try.prog 113 #[.slice (some ⟨w.heap.size + 1 + 1, 0, none⟩) 3 3] (((w.alloc o1).alloc o2).alloc (.cells #[.int .i64 a, .int .i64 b, .int .i64 c] T)).drew fun e w' => e = .returned (.int .i64 (orI a b c)) ∧ w' = (((w.alloc o1).alloc o2).alloc (.cells #[.int .i64 a, .int .i64 b, .int .i64 c] T)).drew := by
  have hg : (((w.alloc o1).alloc o2).alloc (.cells #[.int .i64 a, .int .i64 b, .int .i64 c] T)).drew.heap[w.heap.size + 1 + 1]? = some (.cells #[.int .i64 a, .int .i64 b, .int .i64 c] T (0, 0)) := by
    have h := heap_alloc_new ((w.alloc o1).alloc o2) (.cells #[.int .i64 a, .int .i64 b, .int .i64 c] T)
    have e : ((w.alloc o1).alloc o2).heap.size = w.heap.size + 1 + 1 := by
      show ((w.heap.push o1).push o2).size = _
      rw [Array.size_push, Array.size_push]
    rw [e] at h
    exact h
  exact or_k _ a b c _ (cell_of_row _ _ 0 _ T (0, 0) hg) (cell_of_row _ _ 1 _ T (0, 0) hg) (cell_of_row _ _ 2 _ T (0, 0) hg)
end Go.Proofs.Ytlojfbnimmdehaa.eng

/- OrdJ -/
namespace Go.Proofs.Ytlojfbnimmdehaa.eng
open Go.RowKit kit mix itemL Go.Lib Go.Sort
theorem two_heap (a b : Obj) (w : World) : ((w.alloc a).alloc b).heap[w.heap.size]? = some a ∧ ((w.alloc a).alloc b).heap[w.heap.size + 1]? = some b := by
  have e : (w.alloc a).heap.size = w.heap.size + 1 := by
    show (w.heap.push a).size = _
    rw [Array.size_push]
  constructor
  · rw [heap_alloc_old (w.alloc a) b (by omega)]
    exact heap_alloc_new w a
  · have h := heap_alloc_new (w.alloc a) b
    rw [e] at h; exact h
theorem three_grow (a b c : Obj) (w : World) : (((w.alloc a).alloc b).alloc c).drew = grow (w.drewN 1) #[a, b, c] := by
  rw [alloc_eq_grow, alloc_eq_grow, alloc_eq_grow, grow_grow, grow_grow]; rfl
set_option maxHeartbeats 4000000 in
theorem order_k (x y : itemL.Item) (w : World) : Calls Try.prog 85 #[.agg (itC x).toArray, .agg (itC y).toArray] w fun e w' => e = .returned (.int .i64 (ordI x y)) ∧ ∃ q os', w' = grow (w.drewN q) os' := by
  obtain ⟨x1, x2, x3⟩ := x
  obtain ⟨y1, y2, y3⟩ := y
  have ho : ordI (x1, x2, x3) (y1, y2, y3) = orI (cmpI x1 y1) (cmpI x2 y2) (cmpI x3 y3) := rfl
  rw [ho]
  clear ho
  unfold itC
  dsimp only
  obtain ⟨t1, t2⟩ := two_heap (.cells #[.int .i64 x1, .int .i64 x2, .int .i64 x3] 60) (.cells #[.int .i64 y1, .int .i64 y2, .int .i64 y3] 60) w
  have k1 := cell_of_row _ _ 0 _ _ (0, 0) t1
  have k2 := cell_of_row _ _ 1 _ _ (0, 0) t1
  have k3 := cell_of_row _ _ 2 _ _ (0, 0) t1
  have k4 := cell_of_row _ _ 0 _ _ (0, 0) t2
  have k5 := cell_of_row _ _ 1 _ _ (0, 0) t2
  have k6 := cell_of_row _ _ 2 _ _ (0, 0) t2
  clear t1 t2
  go_enter Try.func85, Try.ntmps85
  go_wp2
  go_region_held (fun w' => w'.cell? ⟨w.heap.size, 0, none⟩ = some (.int .i64 x1) ∧ w'.cell? ⟨w.heap.size, 1, none⟩ = some (.int .i64 x2) ∧ w'.cell? ⟨w.heap.size, 2, none⟩ = some (.int .i64 x3) ∧ w'.cell? ⟨w.heap.size + 1, 0, none⟩ = some (.int .i64 y1) ∧ w'.cell? ⟨w.heap.size + 1, 1, none⟩ = some (.int .i64 y2) ∧ w'.cell? ⟨w.heap.size + 1, 2, none⟩ = some (.int .i64 y3)) (go_keep) (first | (go_at_call 114; refine (compare_k _ _ _).mono ?_; rintro e w' ⟨rfl, rfl⟩) | (go_at_call 113; have hzz := (or_k2 (.cells #[.int .i64 x1, .int .i64 x2, .int .i64 x3] 60) (.cells #[.int .i64 y1, .int .i64 y2, .int .i64 y3] 60) (cmpI x1 y1) (cmpI x2 y2) (cmpI x3 y3) 3 w); refine hzz.mono ?_; clear hzz; rintro e w' ⟨rfl, rfl⟩))
  go_wp2
  go_ret
  refine ⟨rfl, 1, #[.cells #[.int .i64 x1, .int .i64 x2, .int .i64 x3] 60, .cells #[.int .i64 y1, .int .i64 y2, .int .i64 y3] 60, .cells #[.int .i64 (cmpI x1 y1), .int .i64 (cmpI x2 y2), .int .i64 (cmpI x3 y3)] 3], ?_⟩
  exact three_grow _ _ _ w
end Go.Proofs.Ytlojfbnimmdehaa.eng

/- ItH -/
namespace Go.Proofs.Ytlojfbnimmdehaa.eng
open Go.RowKit kit mix gramL treeL factsL itemL
theorem build_open (t n : Int) (vp : Value) (gm : Nat) (w : World) : (Instr.build 164 #[(0, graV t n vp), (1, .map (some gm))]).run Try.prog w = .ok (.agg (opC t n vp gm).toArray) w := by kernel_rfl
/-- what begun makes -/
def begS (t n : Int) (vp : Value) : Spec (Nat × Nat) := ⟨fun _ => True, fun x => .pointer (some ⟨x.1, 0, none⟩), fun x => [mapO restK x.2 (fun _ => none) 0, blkO x.1 (opC t n vp x.2).toArray 164]⟩
theorem begunI_calls (t n : Int) (vp : Value) (w : World) : Calls Try.prog 51 #[graV t n vp] w (Meets (begS t n vp) w) := by
  have hb := build_open t n vp
  refine enter (args := [graV t n vp]) (n := 7) Try.func51 rfl rfl rfl ?_
  refine T_seq (T_region (TL_box rfl rfl rfl fun g1 => ?_))
  conv=>arg 8;simp only[zA,zB,zC,zD,zE,zF,zG,zH,zI,rowS,ret,id_eq]
  repeat(first|refine QV QP ?_|refine QZ ?_|refine QV (rr_loadB (i := 0) TyC.ty rfl rfl rfl) ?_)
  refine TL_map restK rfl fun gm => ?_
  conv=>arg 8;simp only[zA,zB,zC,zD,zE,zF,zG,zH,zI,rowS,ret,id_eq]
  repeat(first|refine QV QP ?_|refine QZ ?_|refine QV (rr_build rfl (hb _)) ?_)
  refine TL_box rfl rfl rfl fun go => ?_
  conv=>arg 8;simp only[zA,zB,zC,zD,zE,zF,zG,zH,zI,rowS,ret,id_eq]
  repeat(first|refine QV QP ?_|refine QZ ?_)
  exact E_ret1 rfl rfl fun w hm => hm.meets (S := begS t n vp) (go, gm) trivial [1, 2] (by decide) rfl
end Go.Proofs.Ytlojfbnimmdehaa.eng

/- ItN -/
namespace Go.Proofs.Ytlojfbnimmdehaa.eng
open Go.RowKit kit mix gramL treeL factsL itemL
theorem conv_it {x : Int} (h0 : 0 ≤ x) (h1 : x < 256) : IntKind.u8.wrap x = (((UInt8.ofNat x.toNat).toNat : Nat) : Int) := by
  obtain ⟨n, rfl⟩ := Int.eq_ofNat_of_zero_le h0
  rw [Int.toNat_natCast, IntKind.wrap_u8]; simp
theorem nameI_len (l : List itemL.Item) : (nameI l).length = 3 * l.length := by
  induction l with
  | nil => rfl
  | cons x r ih =>
    have : nameI (x :: r) = [UInt8.ofNat x.1.toNat, UInt8.ofNat x.2.1.toNat, UInt8.ofNat x.2.2.toNat] ++ nameI r := rfl
    rw [this, List.length_append, ih, List.length_cons]
    show 3 + 3 * r.length = 3 * (r.length + 1)
    omega
theorem nameI_take {l : List itemL.Item} {k : Nat} (h : k < l.length) : nameI (l.take (k + 1)) = nameI (l.take k) ++ [UInt8.ofNat l[k].1.toNat, UInt8.ofNat l[k].2.1.toNat, UInt8.ofNat l[k].2.2.toNat] := by
  unfold nameI
  rw [List.take_succ_eq_append_getElem h, List.flatMap_append]
  rfl
set_option maxHeartbeats 4000000 in
theorem name_calls (vl : Value) (l : List itemL.Item) (w : World) (hl : Sl w vl l.length (l.flatMap itC)) (hb : ∀ it ∈ l, 0 ≤ it.1 ∧ it.1 < 256 ∧ 0 ≤ it.2.1 ∧ it.2.1 < 256 ∧ 0 ≤ it.2.2 ∧ it.2.2 < 256) (hn : l.length ≤ 20000) :
    Calls Try.prog 78 #[vl] w (Meets (ret (str (nameI l))) w) := by
  obtain ⟨bl, cl, rfl, hc1, hc2, hrl⟩ := hl
  unfold maxLen at hc2
  refine enter (args := [.slice bl l.length cl]) (n := 27) Try.func78 rfl rfl rfl ?_
  repeat(first|refine QV QP ?_|refine QZ ?_|refine qcT rfl ?_|refine qcF rfl ?_|refine E_blockX ?_|refine E_blockO rfl ?_|refine QV QL ?_|refine QV QA ?_|refine QV QlT ?_|refine QV QlF ?_|refine QV QaA ?_)
  refine T_nil 5 1 ?_
  conv => arg 7; simp only [zA, zB, zC, zD, zE, zF, zG, zH, zI, rowS, ret, id_eq]
  refine T_loop (ι := Nat × Value) (fun (k, _) => k ≤ l.length) (fun (k, v) => [(3, v), (6, .slice bl l.length cl), (7, .int .i64 l.length), (8, .int .i64 (k : Int))])
    (fun (k, v) => [rowO 5 1 v (nameI (l.take k)).length ((nameI (l.take k)).map u8v)]) (fun (k, _) => l.length - k) (0, .slice none 0 0) (Nat.zero_le _) (by repeat' (first | exact True.intro | refine And.intro rfl ?_)) rfl ?_
  rintro ⟨k, v⟩ i1
  dsimp only at i1 ⊢
  by_cases c1 : k < l.length
  · obtain ⟨b, off, rfl, hrd⟩ := hrl (by omega)
    have hat := fun L => at_el (L := L) itC_len hrd c1
    have hatA : ∀ (L : List Own) (j : Nat) (u : Value), (itC l[k])[j]? = some u → At (w : Base) L ⟨b, off + k * 3 + j, none⟩ u := hat
    clear hat hrl hrd
    obtain ⟨b1, b2, b3, b4, b5, b6⟩ := hb l[k] (List.getElem_mem c1)
    have hnx := nameI_take c1
    have hln : (nameI (l.take k)).length ≤ 60000 := by rw [nameI_len, List.length_take]; omega
    generalize l[k] = x at *
    obtain ⟨p, d, lo⟩ := x
    dsimp only at b1 b2 b3 b4 b5 b6 hnx
    have e1 := conv_it b1 b2
    have e2 := conv_it b3 b4
    have e3 := conv_it b5 b6
    generalize UInt8.ofNat p.toNat = y1 at *
    generalize UInt8.ofNat d.toNat = y2 at *
    generalize UInt8.ofNat lo.toNat = y3 at *
    generalize hN : nameI (l.take k) = N at *
    repeat(first|refine QV QP ?_|refine QZ ?_|refine qcT rfl ?_|refine qcF rfl ?_|refine E_blockX ?_|refine E_blockO rfl ?_|refine QV (rr_idxc Und.eq TyC.ty rfl rfl c1) ?_|refine QV (rr_loadN (cs := itC (p, d, lo)) TyC.ty rfl rfl (hatA _)) ?_|refine QV QL ?_|refine QV QA ?_|refine QV QlT ?_|refine QV QlF ?_|refine QV QaA ?_)
    refine TL_new rfl fun g5 => ?_
    conv=>arg 8;simp only[zA,zB,zC,zD,zE,zF,zG,zH,zI,rowS,ret,id_eq]
    refine TL_storeB (i := 1) (cs' := (itC (p, d, lo)).toArray) rfl rfl rfl rfl rfl rfl ?_
    conv=>arg 8;simp only[zA,zB,zC,zD,zE,zF,zG,zH,zI,rowS,ret,id_eq]
    repeat(first|refine QV QP ?_|refine QZ ?_|refine qcT rfl ?_|refine qcF rfl ?_|refine E_blockX ?_|refine E_blockO rfl ?_|refine QV (rr_load1 (v := .int .i64 p) TyC.ty rfl (at_blk (i := 1) rfl rfl)) ?_|refine QV (rr_load1 (v := .int .i64 d) TyC.ty rfl (at_blk (i := 1) rfl rfl)) ?_|refine QV (rr_load1 (v := .int .i64 lo) TyC.ty rfl (at_blk (i := 1) rfl rfl)) ?_|refine QV (rr_conv Und.eq Und.eq rfl e1) ?_|refine QV (rr_conv Und.eq Und.eq rfl e2) ?_|refine QV (rr_conv Und.eq Und.eq rfl e3) ?_|refine QV QL ?_|refine QV QA ?_|refine QV QlT ?_|refine QV QlF ?_|refine QV QaA ?_)
    refine TL_litV [u8v y1, u8v y2, u8v y3] rfl rfl rfl (by intro v hv; simp at hv; rcases hv with rfl | rfl | rfl <;> rfl) rfl rfl fun g22 => ?_
    conv=>arg 8;simp only[zA,zB,zC,zD,zE,zF,zG,zH,zI,rowS,ret,id_eq]
    refine TL_appSl (i := 0) (e := 5) (size := 1) (bytes := 1) (m := N.length) (xs := N.map u8v) (k := 3) (ys := [u8v y1, u8v y2, u8v y3]) rfl (sl_blk (i := 2) rfl (fun j u h => by simpa using h) (Nat.le_refl 3) (by decide)) rfl rfl rfl (by intro u hu; simp at hu; rcases hu with rfl | rfl | rfl <;> rfl) (by omega) (by omega) rfl fun v' => ?_
    conv=>arg 8;simp only[zA,zB,zC,zD,zE,zF,zG,zH,zI,rowS,ret,id_eq]
    repeat(first|refine QV QP ?_|refine QZ ?_|refine qcT rfl ?_|refine qcF rfl ?_|refine E_blockX ?_|refine E_blockO rfl ?_|refine QV QL ?_|refine QV QA ?_|refine QV QlT ?_|refine QV QlF ?_|refine QV QaA ?_)
    refine E_pick [0] (by decide) rfl ?_
    exact E_round (k + 1, v') (by show k + 1 ≤ l.length; omega) (by show l.length - (k + 1) < l.length - k; omega) (by repeat' (first | exact True.intro | refine And.intro rfl ?_)) (by dsimp only; rw [hnx, List.length_append, List.map_append]; rfl)
  · obtain rfl : k = l.length := by omega
    rw [List.take_length]
    repeat(first|refine QV QP ?_|refine QZ ?_|refine qcT rfl ?_|refine qcF rfl ?_|refine E_blockX ?_|refine E_blockO rfl ?_|refine QV (rr_string Und.eq Und.eq Und.eq rfl rfl (sl_row (i := 0) rfl)) ?_|refine QV QL ?_|refine QV QA ?_|refine QV QlT ?_|refine QV QlF ?_|refine QV QaA ?_)
    exact E_ret1 rfl rfl fun w hm => hm.ret
set_option maxHeartbeats 4000000 in
theorem symbols_calls (T N : Nat) (hT : T ≤ 1000) (hN : N ≤ 1000) (vp : Value) (w : World) :
    Calls Try.prog 79 #[graV (T : Int) (N : Int) vp] w (Meets (rowS 71 2 (symsI T N).length ((symsI T N).flatMap symC) id) w) := by
  have hb1 := fun (q : Int) => build_sym 1 q
  have hb2 := fun (q : Int) => build_sym 2 q
  refine enter (args := [graV (T : Int) (N : Int) vp]) (n := 29) Try.func79 rfl rfl rfl ?_
  refine T_seq (T_region (TL_box rfl rfl rfl fun g1 => ?_))
  conv=>arg 8;simp only[zA,zB,zC,zD,zE,zF,zG,zH,zI,rowS,ret,id_eq]
  repeat(first|refine QV QP ?_|refine QZ ?_|refine qcT rfl ?_|refine qcF rfl ?_|refine E_blockX ?_|refine E_blockO rfl ?_|refine QV (rr_load1 (v := .int .i64 (T : Int)) TyC.ty rfl (at_blk (i := 0) rfl rfl)) ?_|refine QV QA ?_|refine QV QlT ?_|refine QV QlF ?_|refine QV QaA ?_)
  refine T_nil 71 2 ?_
  conv => arg 7; simp only [zA, zB, zC, zD, zE, zF, zG, zH, zI, rowS, ret, id_eq]
  refine T_loop (ι := Nat × Value) (fun (k, _) => k ≤ T) (fun (k, v) => [(1, .pointer (some ⟨g1, 0, none⟩)), (3, v), (7, .int .i64 (T : Int)), (8, .int .i64 (k : Int))])
    (fun (k, v) => [blkO g1 (graV (T : Int) (N : Int) vp).cells 24, rowO 71 2 v ((List.range k).map (fun n : Nat => ((1 : Int), (n : Int)))).length (((List.range k).map (fun n : Nat => ((1 : Int), (n : Int)))).flatMap symC)]) (fun (k, _) => T - k) (0, .slice none 0 0) (Nat.zero_le _) (by repeat' (first | exact True.intro | refine And.intro rfl ?_)) rfl ?_
  rintro ⟨k, v⟩ i1
  dsimp only at i1 ⊢
  by_cases c1 : k < T
  · have hnx : (List.range (k + 1)).map (fun n : Nat => ((1 : Int), (n : Int))) = (List.range k).map (fun n : Nat => ((1 : Int), (n : Int))) ++ [((1 : Int), (k : Int))] := by rw [List.range_succ, List.map_append]; rfl
    have hln : ((List.range k).map (fun n : Nat => ((1 : Int), (n : Int)))).length = k := by rw [List.length_map, List.length_range]
    generalize hA : (List.range k).map (fun n : Nat => ((1 : Int), (n : Int))) = A at *
    repeat(first|refine QV QP ?_|refine QZ ?_|refine qcT rfl ?_|refine qcF rfl ?_|refine E_blockX ?_|refine E_blockO rfl ?_|refine QV (rr_build rfl (hb1 _)) ?_|refine QV QA ?_|refine QV QlT ?_|refine QV QlF ?_|refine QV QaA ?_)
    refine TL_pushN (i := 1) rfl rfl rfl rfl rfl rfl rfl (fun z h => by cases h; rfl) (by omega) (by omega) rfl fun z v' => ?_
    conv=>arg 8;simp only[zA,zB,zC,zD,zE,zF,zG,zH,zI,rowS,ret,id_eq]
    repeat(first|refine QV QP ?_|refine QZ ?_|refine qcT rfl ?_|refine qcF rfl ?_|refine E_blockX ?_|refine E_blockO rfl ?_|refine QV QA ?_|refine QV QlT ?_|refine QV QlF ?_|refine QV QaA ?_)
    exact E_round (k + 1, v') (by show k + 1 ≤ T; omega) (by show T - (k + 1) < T - k; omega) (by repeat' (first | exact True.intro | refine And.intro rfl ?_)) (by dsimp only; rw [hnx, List.length_append, List.flatMap_append]; rfl)
  obtain rfl : k = T := by omega
  have hln : ((List.range k).map (fun n : Nat => ((1 : Int), (n : Int)))).length = k := by rw [List.length_map, List.length_range]
  have hS : symsI k N = (List.range k).map (fun n : Nat => ((1 : Int), (n : Int))) ++ (List.range N).map (fun n : Nat => ((2 : Int), (n : Int))) := rfl
  generalize symsI k N = S at *
  generalize hA : (List.range k).map (fun n : Nat => ((1 : Int), (n : Int))) = A at *
  repeat(first|refine QV QP ?_|refine QZ ?_|refine qcT rfl ?_|refine qcF rfl ?_|refine E_blockX ?_|refine E_blockO rfl ?_|refine QV (rr_load1 (v := .int .i64 (N : Int)) TyC.ty rfl (at_blk (i := 0) rfl rfl)) ?_|refine QV QA ?_|refine QV QlT ?_|refine QV QlF ?_|refine QV QaA ?_)
  refine T_loop (ι := Nat × Value) (fun (j, _) => j ≤ N) (fun (j, v) => [(3, v), (18, .int .i64 (N : Int)), (19, .int .i64 (j : Int))])
    (fun (j, v) => [blkO g1 (graV (k : Int) (N : Int) vp).cells 24, rowO 71 2 v (A ++ (List.range j).map (fun n : Nat => ((2 : Int), (n : Int)))).length ((A ++ (List.range j).map (fun n : Nat => ((2 : Int), (n : Int)))).flatMap symC)]) (fun (j, _) => N - j) (0, v) (Nat.zero_le _) (by repeat' (first | exact True.intro | refine And.intro rfl ?_)) (by simp only [List.range_zero, List.map_nil, List.append_nil]) ?_
  rintro ⟨j, v⟩ j1
  dsimp only at j1 ⊢
  by_cases c2 : j < N
  · have hnx : A ++ (List.range (j + 1)).map (fun n : Nat => ((2 : Int), (n : Int))) = (A ++ (List.range j).map (fun n : Nat => ((2 : Int), (n : Int)))) ++ [((2 : Int), (j : Int))] := by rw [List.range_succ, List.map_append, List.append_assoc]; rfl
    have hln2 : (A ++ (List.range j).map (fun n : Nat => ((2 : Int), (n : Int)))).length ≤ 2000 := by rw [List.length_append, List.length_map, List.length_range]; omega
    generalize hD : A ++ (List.range j).map (fun n : Nat => ((2 : Int), (n : Int))) = D at *
    repeat(first|refine QV QP ?_|refine QZ ?_|refine qcT rfl ?_|refine qcF rfl ?_|refine E_blockX ?_|refine E_blockO rfl ?_|refine QV (rr_build rfl (hb2 _)) ?_|refine QV QA ?_|refine QV QlT ?_|refine QV QlF ?_|refine QV QaA ?_)
    refine TL_pushN (i := 1) rfl rfl rfl rfl rfl rfl rfl (fun z h => by cases h; rfl) (by omega) (by omega) rfl fun z v' => ?_
    conv=>arg 8;simp only[zA,zB,zC,zD,zE,zF,zG,zH,zI,rowS,ret,id_eq]
    repeat(first|refine QV QP ?_|refine QZ ?_|refine qcT rfl ?_|refine qcF rfl ?_|refine E_blockX ?_|refine E_blockO rfl ?_|refine QV QA ?_|refine QV QlT ?_|refine QV QlF ?_|refine QV QaA ?_)
    exact E_round (j + 1, v') (by show j + 1 ≤ N; omega) (by show N - (j + 1) < N - j; omega) (by repeat' (first | exact True.intro | refine And.intro rfl ?_)) (by dsimp only; rw [hnx, List.length_append, List.flatMap_append]; rfl)
  obtain rfl : j = N := by omega
  rw [← hS]
  repeat(first|refine QV QP ?_|refine QZ ?_|refine qcT rfl ?_|refine qcF rfl ?_|refine E_blockX ?_|refine E_blockO rfl ?_|refine QV QA ?_|refine QV QlT ?_|refine QV QlF ?_|refine QV QaA ?_)
  exact E_ret1 rfl rfl fun w hm => hm.meets (S := rowS 71 2 S.length (S.flatMap symC) id) v trivial [1] (by decide) rfl
end Go.Proofs.Ytlojfbnimmdehaa.eng

/- StrK -/
namespace Go.Proofs.Ytlojfbnimmdehaa.eng
open Go.RowKit kit mix
theorem str_inj {x y : List UInt8} (h : str x = str y) : x = y := by
  unfold str at h
  simpa using h
def strK : KeyT Try.prog 9 (List UInt8) where
  kv := str
  ok l := l.length ≤ 9223372036854775807
  law := Go.WideMaps.string_law Try.underlying9
  key l h := ⟨_, Go.WideMaps.keyOf_string_mk Try.underlying9 (by unfold maxLen; simpa [ByteArray.size] using h)⟩
  inj x y h := str_inj h
end Go.Proofs.Ytlojfbnimmdehaa.eng

/- MapN -/
namespace Go.Proofs.Ytlojfbnimmdehaa.eng
open Go.RowKit kit mix smallL
def mapAt {κ : Type} [DecidableEq κ] (D : List κ) (x : κ) : Option Value := if x ∈ D then some (.int .i64 (idx D x : Int)) else none
theorem mapAt_add {κ : Type} [DecidableEq κ] {D : List κ} {x : κ} (hn : x ∉ D) : (fun y => if y = x then some (.int .i64 (D.length : Int)) else mapAt D y) = mapAt (D ++ [x]) := by
  funext y
  unfold mapAt
  by_cases c : y = x
  · subst c
    rw [if_pos rfl, if_pos (by simp)]
    have := idx_more (D := D) (k := y)
    unfold more at this
    rw [if_neg hn, if_neg hn] at this
    rw [this]
  · rw [if_neg c]
    by_cases c2 : y ∈ D
    · rw [if_pos c2, if_pos (List.mem_append_left _ c2), idx_pre c2]
    · rw [if_neg c2, if_neg (by simp [c, c2])]
section
variable {P : Program} {k : TypeId} {κ : Type} {K : KeyT P k κ}
variable {W : Base} {fr : Fr} {L : List Own} {Q : Exit → Act → World → Prop} {ops : Array Oper} {rest : List Oper} {n d : Nat} {dst : Option Tmp} {ty : TypeId} {pos : String} {after : Array Edge} {guard : Option (Nat × Bool)} {i g c : Nat} {t e : TypeId} {D : List κ} {x : κ} {z : Value} {xm xk xv : Operand} [DecidableEq κ]
theorem rr_lookNumS (ht : P.underlying t = some (.map k e)) (hz : ∀ w, (zeroValue e).run P w = .ok z w) (hi : L[i]? = some (mapO K g (mapAt D) c)) (hm : ev fr xm = some (.map (some g))) (hk : ev fr xk = some (K.kv x)) (hx : K.ok x) (hn : x ∈ D) : RR P n W ⟨dst, .lookup t xm xk true, ty, pos, after, guard⟩ fr L (.tuple #[.int .i64 (idx D x : Int), .bool true]) := by
  have := rr_lookOk (n := n) (W := W) (dst := dst) (ty := ty) (pos := pos) (after := after) (guard := guard) K ht hz hi hm hk hx
  rw [show mapAt D x = some (.int .i64 (idx D x : Int)) from if_pos hn] at this
  exact this
theorem rr_lookNumN (ht : P.underlying t = some (.map k e)) (hz : ∀ w, (zeroValue e).run P w = .ok z w) (hi : L[i]? = some (mapO K g (mapAt D) c)) (hm : ev fr xm = some (.map (some g))) (hk : ev fr xk = some (K.kv x)) (hx : K.ok x) (hn : x ∉ D) : RR P n W ⟨dst, .lookup t xm xk true, ty, pos, after, guard⟩ fr L (.tuple #[z, .bool false]) := by
  have := rr_lookOk (n := n) (W := W) (dst := dst) (ty := ty) (pos := pos) (after := after) (guard := guard) K ht hz hi hm hk hx
  rw [show mapAt D x = none from if_neg hn] at this
  exact this
theorem TL_mapNew (hn : Nat.blt d n = true) (h : ∀ g, TL P n W ops Q rest ((d, .map (some g)) :: fr) (L ++ [mapO K g (mapAt []) 0])) :
    TL P n W ops Q (⟨some d, .makeMap t none, ty, pos, after, none⟩ :: rest) fr L := by
  refine TL_map K hn fun g => ?_
  have e : (fun (_ : κ) => (none : Option Value)) = mapAt [] := by funext y; unfold mapAt; rw [if_neg (by simp)]
  rw [e]; exact h g
end
end Go.Proofs.Ytlojfbnimmdehaa.eng

/- ClassL -/
namespace Go.Proofs.Ytlojfbnimmdehaa.classL
/-- a word of 64 bits as the model's number -/
def n64 (x : BitVec 64) : Int := x.toNat
theorem wrap64 (x : BitVec 64) : IntKind.u64.wrap (n64 x) = n64 x := by
  have := x.isLt
  unfold n64
  rw [IntKind.wrap_u64]; omega
theorem ofInt64 (x : BitVec 64) : BitVec.ofInt 64 (n64 x) = x := by
  apply BitVec.eq_of_toNat_eq; simp [n64]
theorem and64 (x y : BitVec 64) : bits .and .u64 (n64 x) (n64 y) = n64 (x &&& y) := by
  unfold bits; simp only [IntKind.bits, ofInt64]; exact wrap64 _
theorem or64 (x y : BitVec 64) : bits .or .u64 (n64 x) (n64 y) = n64 (x ||| y) := by
  unfold bits; simp only [IntKind.bits, ofInt64]; exact wrap64 _
theorem xor64 (x y : BitVec 64) : bits .xor .u64 (n64 x) (n64 y) = n64 (x ^^^ y) := by
  unfold bits; simp only [IntKind.bits, ofInt64]; exact wrap64 _
theorem not64 (x : BitVec 64) : bits .xor .u64 IntKind.u64.max (n64 x) = n64 (~~~ x) := by
  have h := xor64 (BitVec.allOnes 64) x
  rw [BitVec.allOnes_xor] at h
  rw [← h]; rfl
/-- a class of bytes -/
structure C4 where
  a : BitVec 64
  b : BitVec 64
  c : BitVec 64
  d : BitVec 64
  deriving DecidableEq
def C4.zero : C4 := ⟨0, 0, 0, 0⟩
def clsL (x : C4) : List Value := [.int .u64 (n64 x.a), .int .u64 (n64 x.b), .int .u64 (n64 x.c), .int .u64 (n64 x.d)]
end Go.Proofs.Ytlojfbnimmdehaa.classL

/- RexL -/
namespace Go.Proofs.Ytlojfbnimmdehaa.rexL
open classL
inductive Rx where
  | mk (kind : Int) (c : C4) (kids : List Rx)
def Rx.kind : Rx → Int | .mk k _ _ => k
def Rx.cls : Rx → C4 | .mk _ c _ => c
def Rx.kids : Rx → List Rx | .mk _ _ l => l
/-! ### expressions that are as they should be -/
inductive Re where
  | none
  | empty
  | byte (c : C4)
  | cat (a b : Re)
  | alt (a b : Re)
  | star (a : Re)
def Re.size : Re → Nat
  | .cat a b => a.size + b.size + 1
  | .alt a b => a.size + b.size + 1
  | .star a => a.size + 1
  | _ => 1
def Re.kind : Re → Int
  | .none => 1
  | .empty => 2
  | .byte _ => 3
  | .cat _ _ => 4
  | .alt _ _ => 5
  | .star _ => 6
def Re.cls : Re → C4
  | .byte c => c
  | _ => C4.zero
def Re.kids : Re → List Re
  | .cat a b => [a, b]
  | .alt a b => [a, b]
  | .star a => [a]
  | _ => []
end Go.Proofs.Ytlojfbnimmdehaa.rexL

/- RexS -/
namespace Go.Proofs.Ytlojfbnimmdehaa.eng
open Go.RowKit kit mix classL rexL
/-- an expression that can be read, its blocks being in F -/
inductive RexIs (F : Nat → Prop) (w : World) : List Value → Rx → Prop
  | mk {k : Int} {c : C4} {kids : List Rx} {base : Option Addr} {cap : Nat} (css : List (List Value)) : kit.okI64 k → kids.length ≤ cap → cap ≤ maxLen → css.length = kids.length →
    (∀ i (h : i < kids.length) (h' : i < css.length), RexIs F w css[i] kids[i]) → (0 < kids.length → ∃ b off, base = some ⟨b, off, none⟩ ∧ F b ∧ ∀ i (_ : i < kids.length) (h' : i < css.length), Rd w b (off + i * 6) css[i]) →
    RexIs F w (.int .i64 k :: (clsL c ++ [.slice base kids.length cap])) (.mk k c kids)
theorem RexIs.len6 {F : Nat → Prop} {w : World} {cs : List Value} {t : Rx} (h : RexIs F w cs t) : cs.length = 6 := by
  cases h; rfl
theorem RexIs.stayed {F : Nat → Prop} {w w' : World} {cs : List Value} {t : Rx} (h : RexIs F w cs t) (hk : ∀ k, F k → w'.heap[k]? = w.heap[k]?) : RexIs F w' cs t := by
  induction h with
  | mk css h2 h3 h4 h5 h6 h7 ih =>
    refine .mk css h2 h3 h4 h5 ih fun hl => ?_
    obtain ⟨b, off, e, hF, hr⟩ := h7 hl
    exact ⟨b, off, e, hF, fun i hi hi' => rd_stay (hr i hi hi') (hk b hF)⟩
theorem RexIs.mono {F F' : Nat → Prop} {w : World} {cs : List Value} {t : Rx} (h : RexIs F w cs t) (hk : ∀ k, F k → F' k) : RexIs F' w cs t := by
  induction h with
  | mk css h2 h3 h4 h5 h6 h7 ih =>
    refine .mk css h2 h3 h4 h5 ih fun hl => ?_
    obtain ⟨b, off, e, hF, hr⟩ := h7 hl
    exact ⟨b, off, e, hk b hF, hr⟩
def rexS : Shp Rx := ⟨6, RexIs, fun h => h.len6, fun h hk => h.stayed hk, fun h hk => h.mono hk⟩
def rexC (k : Int) (c : C4) (v : Value) : List Value := .int .i64 k :: (clsL c ++ [v])
def rexV (k : Int) (c : C4) (v : Value) : Value := .agg (rexC k c v).toArray
theorem rex_iff {F : Nat → Prop} {w : World} {cs : List Value} {k : Int} {c : C4} {kids : List Rx} : RexIs F w cs (.mk k c kids) ↔ ∃ v, cs = rexC k c v ∧ kit.okI64 k ∧ SlF rexS F w v kids := by
  constructor
  · intro h
    cases h with
    | mk css h2 h3 h4 h5 h6 h7 =>
      refine ⟨_, rfl, h2, _, _, rfl, h3, h4, fun hl => ?_⟩
      obtain ⟨b, off, e, hF, hr⟩ := h7 hl
      exact ⟨b, off, e, hF, fun i hi => ⟨css[i]'(by omega), h6 i hi (by omega), hr i hi (by omega)⟩⟩
  · rintro ⟨v, rfl, h2, base, cap, rfl, h3, h4, h5⟩
    by_cases hl : 0 < kids.length
    · obtain ⟨b, off, e, hF, hr⟩ := h5 hl
      have hlen : (List.ofFn fun i : Fin kids.length => Classical.choose (hr i i.2)).length = kids.length := by simp
      refine .mk (List.ofFn fun i : Fin kids.length => Classical.choose (hr i i.2)) h2 h3 h4 hlen (fun i hi hi' => ?_) fun _ => ⟨b, off, e, hF, fun i hi hi' => ?_⟩
      · rw [List.getElem_ofFn]; exact (Classical.choose_spec (hr i hi)).1
      · rw [List.getElem_ofFn]; exact (Classical.choose_spec (hr i hi)).2
    · have : kids = [] := List.eq_nil_of_length_eq_zero (by omega)
      subst this
      exact .mk [] h2 h3 h4 rfl (fun i hi => absurd hi (by simp)) fun h => absurd h (by simp)
/-- an expression that is a value -/
def RexR (F : Nat → Prop) (w : World) (v : Value) (r : Rx) : Prop := ∃ vk, v = rexV r.kind r.cls vk ∧ kit.okI64 r.kind ∧ SlF rexS F w vk r.kids
theorem RexR.stay {F : Nat → Prop} {w w' : World} {v : Value} {r : Rx} (h : RexR F w v r) (hk : ∀ k, F k → w'.heap[k]? = w.heap[k]?) : RexR F w' v r :=
  let ⟨vk, h1, h2, h3⟩ := h; ⟨vk, h1, h2, h3.stay hk⟩
theorem RexR.mono {F F' : Nat → Prop} {w : World} {v : Value} {r : Rx} (h : RexR F w v r) (hk : ∀ k, F k → F' k) : RexR F' w v r :=
  let ⟨vk, h1, h2, h3⟩ := h; ⟨vk, h1, h2, h3.mono hk⟩
/-- what is there at all -/
def Low (w : World) : Nat → Prop := fun k => k < w.heap.size
theorem RexR.gr {w w' : World} {v : Value} {r : Rx} (h : RexR (Low w) w v r) (hg : Gr w w') : RexR (Low w') w' v r :=
  (h.stay fun k hk => hg.block k hk).mono fun k hk => Nat.lt_of_lt_of_le hk hg.size
theorem RexR.is {F : Nat → Prop} {w : World} {v : Value} {r : Rx} (h : RexR F w v r) : ∃ cs, v = .agg cs.toArray ∧ RexIs F w cs r := by
  obtain ⟨k, c, kids⟩ := r
  obtain ⟨vk, rfl, h1, h2⟩ := h
  exact ⟨_, rfl, rex_iff.2 ⟨vk, rfl, h1, h2⟩⟩
theorem RexIs.r {F : Nat → Prop} {w : World} {cs : List Value} {r : Rx} (h : RexIs F w cs r) : RexR F w (.agg cs.toArray) r := by
  obtain ⟨k, c, kids⟩ := r
  obtain ⟨vk, rfl, h1, h2⟩ := rex_iff.1 h
  exact ⟨vk, rfl, h1, h2⟩
/-! ### numbered -/
/-- a node's kids and their numbers -/
def kidsK (r : Re) (k : Nat) : List (Re × Nat) := match r with
  | .cat a b => [(a, k + 1), (b, k + 1 + a.size)]
  | .alt a b => [(a, k + 1), (b, k + 1 + a.size)]
  | .star a => [(a, k + 1)]
  | _ => []
/-- a numbered node that can be read, its kids' blocks being in F -/
inductive NumIs (F : Nat → Prop) (w : World) : List Value → Re × Nat → Prop
  | mk {r : Re} {k : Nat} {vk : Value} {base : Option Addr} {cap : Nat} (css : List (List Value)) : vk.oneCell' = true → (kidsK r k).length ≤ cap → cap ≤ maxLen → css.length = (kidsK r k).length →
    (∀ i (h : i < (kidsK r k).length) (h' : i < css.length), NumIs F w css[i] (kidsK r k)[i]) → (0 < (kidsK r k).length → ∃ b off, base = some ⟨b, off, none⟩ ∧ F b ∧ ∀ i (_ : i < (kidsK r k).length) (h' : i < css.length), Rd w b (off + i * 8) css[i]) →
    NumIs F w (.int .i64 r.kind :: (clsL r.cls ++ [vk, .int .i64 (k : Int), .slice base (kidsK r k).length cap])) (r, k)
theorem NumIs.stayed {F : Nat → Prop} {w w' : World} {cs : List Value} {t : Re × Nat} (h : NumIs F w cs t) (hk : ∀ k, F k → w'.heap[k]? = w.heap[k]?) : NumIs F w' cs t := by
  induction h with
  | mk css h2 h3 h4 h5 h6 h7 ih =>
    refine .mk css h2 h3 h4 h5 ih fun hl => ?_
    obtain ⟨b, off, e, hF, hr⟩ := h7 hl
    exact ⟨b, off, e, hF, fun i hi hi' => rd_stay (hr i hi hi') (hk b hF)⟩
theorem NumIs.mono {F F' : Nat → Prop} {w : World} {cs : List Value} {t : Re × Nat} (h : NumIs F w cs t) (hk : ∀ k, F k → F' k) : NumIs F' w cs t := by
  induction h with
  | mk css h2 h3 h4 h5 h6 h7 ih =>
    refine .mk css h2 h3 h4 h5 ih fun hl => ?_
    obtain ⟨b, off, e, hF, hr⟩ := h7 hl
    exact ⟨b, off, e, hk b hF, hr⟩
section
end
end Go.Proofs.Ytlojfbnimmdehaa.eng

/- PlN -/
namespace Go.Proofs.Ytlojfbnimmdehaa.eng
open Go.RowKit kit mix classL rexL
/-- blocks that are there already, and stay -/
def OldB (B : Base) (k : Nat) : Prop := k < B.w.heap.size ∧ ¬ B.X k
theorem at_oldB {B : Base} {L : List Own} {b off : Nat} {cs : List Value} (hb : OldB B b) (h : Rd B.w b off cs) (j : Nat) (v : Value) (hj : cs[j]? = some v) : At B L ⟨b, off + j, none⟩ v := fun w hm =>
  rd_stay h (hm.low.block b hb.1 hb.2) j v hj
end Go.Proofs.Ytlojfbnimmdehaa.eng

/- App -/
namespace Go.Proofs.Ytlojfbnimmdehaa.eng
open Go.RowKit kit mix
section
variable {P : Program} {n : Nat} {W : Base} {fr : Fr} {L : List Own} {Q : Exit → Act → World → Prop} {ops : Array Oper} {rest : List Oper} {d : Nat} {dst : Option Tmp} {ty : TypeId} {pos : String} {after : Array Edge} {guard : Option (Nat × Bool)}
theorem rr_sl3 {t e : TypeId} {x z z' : Operand} {agg : Bool} {c j len cap b off : Nat} {k k' : IntKind} (ht : P.underlying t = some (.slice e)) (he : Ty P e agg c) (hx : ev fr x = some (.slice (some ⟨b, off, none⟩) len cap)) (hz : ev fr z = some (.int k (j : Int))) (hz' : ev fr z' = some (.int k' (j : Int))) (h2 : j ≤ cap) :
    RR P n W ⟨dst, .slice t x none (some z) (some z'), ty, pos, after, guard⟩ fr L (.slice (some ⟨b, off, none⟩) j j) := .mk fun a w hr _ => by
  have hb : ∀ (k : IntKind) (p q : Nat) (cd : BoundsCode), p ≤ q → (Instr.sliceBound (.int k (p : Int)) q cd).run P w = .ok p w := fun k p q cd h => by
    have : (0 : Int) ≤ (p : Int) ∧ (p : Int) ≤ (q : Int) := by omega
    simp [Instr.sliceBound, asIntOf, this]
  have e1 : ((⟨b, off, none⟩ : Addr).add 0) = ⟨b, off, none⟩ := by rw [addr_add]; rfl
  simp [execOp, hr.ev hx, hr.ev hz, hr.ev hz', Instr.sliceAt, Instr.slice, run_underlying ht, Instr.sliceBounds, he.size, hb k' j cap _ h2, hb k j j _ (Nat.le_refl _), e1]
theorem TL_appFull {t e : TypeId} {s x : Operand} {q g b off size bytes m : Nat} {olds : List Value} {cs : Array Value} {T : TypeId} [hel : ElC P t e size bytes] (hs : ev fr s = some (.slice (some ⟨b, off, none⟩) m m)) (hold : ∀ j v, olds[j]? = some v → At W L ⟨b, off + j, none⟩ v) (hol : olds.length = m * size) (hq : L[q]? = some (blkO g cs T)) (hx : ev fr x = some (.slice (some ⟨g, 0, none⟩) 1 1))
    (hl : cs.size = size) (h63 : m + 1 ≤ 140737488355328) (hb : (m + 1) * bytes ≤ 140737488355328) (hn : Nat.blt d n = true)
    (h : ∀ v', TL P n W ops Q rest ((d, v') :: fr) (L ++ [rowO e size v' (m + 1) (olds ++ cs.toList)])) :
    TL P n W ops Q (⟨some d, .call { callee := .builtin .append, args := #[s, x], argTypes := #[t, t] }, ty, pos, after, none⟩ :: rest) fr L := TL_any rfl fun act w hr hm K hK => by
  obtain ⟨inf, z, ht, hinf, hz, hsize, hby, hzs, hsz⟩ := hel.el.ex
  subst hsize hby
  have hrun := run_append_grow (P := P) w t ty e inf z ht hinf hz ⟨b, off, none⟩ m m olds hol (fun j v hj => by rw [addr_add]; exact hold j v hj w hm) ⟨g, 0, none⟩ 1 1 cs.toList (by simpa using hl) (fun j v hj => by rw [addr_add, Nat.zero_add]; exact at_blk hq (by simpa using hj) w hm) (by omega) (by omega) (growslice_fits (by omega) hb)
  have e' : (execOp act.eval ⟨some d, .call { callee := .builtin .append, args := #[s, x], argTypes := #[t, t] }, ty, pos, after, none⟩).run P w = .ok (.value (.slice (some ⟨w.heap.size, 0, none⟩) (m + 1) (grownCap w (m + 1) m e))) (w.drew.alloc (.cells (olds.toArray ++ cs.toList.toArray ++ Builtin.zeroCells z.cells (grownCap w (m + 1) m e - (m + 1))) e)) := by
    simp only [BigFrame.execOp_builtin, BigFrame.builtin_append, List.map_toArray, List.map_cons, List.map_nil, hr.ev hs, hr.ev hx, Sem.run_bind, hrun, Result.andThen_ok, Sem.run_pure]
  unfold Oper.wp; rw [e']
  have hge := grownCap_ge w (m + 1) m e
  have hcm : grownCap w (m + 1) m e ≤ maxLen := grownCap_le_maxLen w (m + 1) m e (by unfold maxLen; omega)
  have hlen : (olds ++ cs.toList).length = (m + 1) * inf.size := by rw [List.length_append, hol, Array.length_toList, hl, Nat.succ_mul]
  refine hK _ _ ((h _).go _ _ (hr.put hn _) (hm.append ((Below.refl _ _).drew.alloc (Nat.le_refl _) _) (Owns.one ?_ ?_)))
  · refine (⟨hlen, .inr ⟨w.heap.size, _, _, rfl, Nat.zero_le _, heap_alloc_new w.drew _, hge, hcm, ?_, ?_⟩⟩ : World.ownsRow _ 0 e inf.size _ (m + 1) (olds ++ cs.toList))
    · simp only [Array.size_append, List.size_toArray, size_zeroCells, hzs, hol, Array.length_toList, hl]
      have : grownCap w (m + 1) m e = m + 1 + (grownCap w (m + 1) m e - (m + 1)) := by omega
      conv => rhs; rw [this, Nat.add_mul, Nat.add_mul, Nat.one_mul]
    · simp only [Array.toList_append]
      rw [← hlen]
      exact List.take_left
  · intro k hk
    have hk : Value.ownBlock (.slice (some ⟨w.heap.size, 0, none⟩) (m + 1) (grownCap w (m + 1) m e)) = some k := hk
    simp only [Value.ownBlock, Option.some.injEq] at hk
    omega
/-! ### a slice that may be nil -/
def gA (G : Option Nat) : Option Addr := G.map fun g => ⟨g, 0, none⟩
theorem row_form {w : World} {e : TypeId} {size m : Nat} {v : Value} {xs : List Value} (h : (rowO e size v m xs).holds w) : ∃ G cap, v = .slice (gA G) m cap ∧ m ≤ cap ∧ cap ≤ maxLen ∧ (G = none → cap = 0) := by
  have h : w.ownsRow 0 e size v m xs := h
  rcases h.2 with ⟨hv, h0⟩ | ⟨g, cap, cur, hv, _, _, h1, h2, _⟩
  · exact ⟨none, 0, by rw [hv, h0]; rfl, by omega, by decide, fun _ => rfl⟩
  · exact ⟨some g, cap, hv, h1, h2, fun h => by cases h⟩
theorem T_rowG {c : Code} {i size m : Nat} {e : TypeId} {v : Value} {xs : List Value} (hi : L[i]? = some (rowO e size v m xs)) (h : ∀ G cap, v = .slice (gA G) m cap → m ≤ cap → cap ≤ 9223372036854775807 → (G = none → cap = 0) → T P n W c Q fr L) : T P n W c Q fr L := .mk fun a w hr hm => by
  obtain ⟨G, cap, h1, h2, h3, h4⟩ := row_form (hm.get hi)
  exact (h G cap h1 h2 h3 h4).go a w hr hm
theorem T_rowN {c : Code} {i size m : Nat} {e : TypeId} {v : Value} {xs : List Value} (hi : L[i]? = some (rowO e size v m xs)) (h0 : 0 < m) (h : ∀ g cap, v = .slice (some ⟨g, 0, none⟩) m cap → m ≤ cap → cap ≤ 9223372036854775807 → T P n W c Q fr L) : T P n W c Q fr L := by
  refine T_rowG hi fun G cap hv h1 h2 h3 => ?_
  cases G with
  | none => have := h3 rfl; omega
  | some g => exact h g cap hv h1 h2
end
end Go.Proofs.Ytlojfbnimmdehaa.eng

/- ClassB -/
namespace Go.Proofs.Ytlojfbnimmdehaa
open Go.RowKit kit mix classL
attribute [local go_sem] and64 or64 xor64 not64
theorem gr_alloc (w : World) (o : Obj) : Below w.heap.size w (w.alloc o) := (Below.refl _ _).alloc (Nat.le_refl _) _
end Go.Proofs.Ytlojfbnimmdehaa

/- PlR -/
namespace Go.Proofs.Ytlojfbnimmdehaa.eng
open Go.RowKit kit mix classL rexL
theorem row_slm {e : TypeId} {size n : Nat} {v : Value} {xs : List Value} (w : World) (h : (rowO e size v n xs).holds w) : ∃ a c, v = .slice a n c ∧ n ≤ 9223372036854775807 ∧ (0 < n → ∃ g, a = some ⟨g, 0, none⟩) := by
  rcases (show w.ownsRow 0 e size v n xs from h).2 with ⟨rfl, rfl⟩ | ⟨g, cap, cur, rfl, _, _, hn, hm, _⟩
  · exact ⟨_, _, rfl, by omega, fun h => by omega⟩
  · exact ⟨_, _, rfl, by unfold maxLen at hm; omega, fun _ => ⟨g, rfl⟩⟩
end Go.Proofs.Ytlojfbnimmdehaa.eng

/- ItO -/
namespace Go.Proofs.Ytlojfbnimmdehaa.eng
open Go.RowKit kit mix gramL treeL factsL itemL smallL
def itS : Shp itemL.Item := flatS itC 3 (fun _ => rfl) (fun _ => True)
theorem idx_map {κ τ : Type} [DecidableEq κ] [DecidableEq τ] (f : κ → τ) (x : κ) : ∀ (D : List κ), (∀ y ∈ D, f y = f x → y = x) → idx (D.map f) (f x) = idx D x
  | [], _ => rfl
  | y :: D, h => by
    have ih := idx_map f x D fun z hz => h z (List.mem_cons_of_mem _ hz)
    unfold idx at ih ⊢
    rw [List.map_cons, List.idxOf_cons, List.idxOf_cons, ih]
    by_cases e : y = x
    · subst e; simp
    · have : ¬ f y = f x := fun e2 => e (h y (List.mem_cons_self ..) e2)
      rw [show (f y == f x) = false by simpa using this, show (y == x) = false by simpa using e]
/-- items whose numbers are bytes -/
def SmallIt (s : List itemL.Item) : Prop := ∀ it ∈ s, 0 ≤ it.1 ∧ it.1 < 256 ∧ 0 ≤ it.2.1 ∧ it.2.1 < 256 ∧ 0 ≤ it.2.2 ∧ it.2.2 < 256
theorem mem_names {S : List (List itemL.Item)} {s : List itemL.Item} (hS : ∀ t ∈ S, SmallIt t) (hs : SmallIt s) : nameI s ∈ S.map nameI ↔ s ∈ S := by
  constructor
  · intro h
    obtain ⟨t, ht, e⟩ := List.mem_map.1 h
    rw [← name_inj (hS t ht) hs e]; exact ht
  · exact List.mem_map_of_mem
def stL (g6 gm g7 : Nat) (vS vN : Value) (vss : List Value) (F : Nat → Prop) (S : List (List itemL.Item)) : List Own :=
  [blkO g6 #[.map (some gm)] 155, mapO strK gm (mapAt (S.map nameI)) S.length, blkO g7 #[vS, vN] 103, rowO 51 1 vS S.length vss, elsO (sliceS itS) F (vss.map fun v => [v]) S]
theorem row_foot {w : World} {e : TypeId} {size n : Nat} {v : Value} {xs : List Value} (h : (rowO e size v n xs).holds w) : ∀ k, v.ownBlock = some k → k < w.heap.size := fun k hk => (rowO e size v n xs).lt w h k (.inl hk)
theorem it_of_row {w : World} {v : Value} {l : List itemL.Item} (h : (rowO 60 3 v l.length (l.flatMap itC)).holds w) : (sliceS itS).is (fun k => v.ownBlock = some k) w [v] l :=
  ⟨v, rfl, SlF.of_flat (Sl.of_own h) (fun _ _ => trivial) (fun _ h => h) (fun a n cp hv => by rw [hv]; rfl)⟩
set_option maxHeartbeats 4000000 in
theorem state_calls (g6 gm g7 : Nat) (vS vN : Value) (vss : List Value) (F : Nat → Prop) (S : List (List itemL.Item)) (vl : Value) (s : List itemL.Item) (hS : ∀ t ∈ S, SmallIt t) (hs : SmallIt s) (hSl : S.length ≤ 1000) (hsl : s.length ≤ 20000) (w : World) (B : Base)
    (hm : Mem B (stL g6 gm g7 vS vN vss F S ++ [rowO 60 3 vl s.length (s.flatMap itC)]) w) :
    Calls Try.prog 77 #[vl, .pointer (some ⟨g6, 0, none⟩), .pointer (some ⟨g7, 0, none⟩)] w (MeetsB ⟨fun (_ : Value × List Value × (Nat → Prop)) => True, fun _ => .int .i64 ((stateI S s).1 : Int), fun x => stL g6 gm g7 x.1 vN x.2.1 x.2.2 (stateI S s).2⟩ B) := by
  have hmn := mem_names hS hs
  have hix := idx_map nameI s S fun t ht e => name_inj (hS t ht) hs e
  have hok : strK.ok (nameI s) := by
    show (nameI s).length ≤ 9223372036854775807
    rw [nameI_len]; omega
  unfold stL at hm
  refine enterB hm (args := [vl, .pointer (some ⟨g6, 0, none⟩), .pointer (some ⟨g7, 0, none⟩)]) (n := 30) Try.func77 rfl rfl rfl ?_
  refine T_know (i := 3) rfl row_slm fun hrow => ?_
  obtain ⟨aS, cS, rfl, -⟩ := hrow
  repeat(first|refine QV QP ?_|refine QZ ?_|refine qcT rfl ?_|refine qcF rfl ?_|refine QV QL ?_|refine QV QA ?_|refine QV (rr_not rfl rfl) ?_)
  refine T_ord ([blkO g6 #[.map (some gm)] 155, mapO strK gm (mapAt (S.map nameI)) S.length, rowO 60 3 vl s.length (s.flatMap itC)]) (.calm 0 (.calm 1 (.calm 2 (.calm 3 (.calm 4 (.calm 5 (.calm 6 (.calm 7 (.calm 8 (.done)))))))))) (sub_pick [0, 1, 5] (by decide) rfl) (by kernel_rfl) (by kernel_rfl) (by intro c a d v w h; cases d <;> exact h) ?_
  repeat(first|((first|refine TW_plain rfl rfl ?_|refine TW_gmet rfl rfl rfl rfl ?_);first|refine QW QP ?_|refine QW (rr_load1 (v := .map (some gm)) TyC.ty rfl (at_blk (i := 0) rfl rfl)) ?_|refine QW QL ?_|refine QW QA ?_|refine QW (rr_not rfl rfl) ?_)|refine TW_done ?_)
  refine TW_call rfl (he1 EntersC.en rfl rfl) (fun w hm => name_calls vl s w (Sl.of_own (hm.get (i := 2) rfl)) hs hsl) rfl rfl rfl ?_
  by_cases c : s ∈ S
  · have hst : stateI S s = (idx S s, S) := if_pos c
    rw [hst]
    repeat(first|((first|refine TW_plain rfl rfl ?_|refine TW_gmet rfl rfl rfl rfl ?_);first|refine QW QP ?_|refine QW (rr_lookNumS (K := strK) (x := nameI s) Und.eq zero_i64 (i := 1) rfl rfl rfl hok (hmn.2 c)) ?_|refine QW QL ?_|refine QW QA ?_|refine QW (rr_not rfl rfl) ?_)|refine TW_done ?_)
    rw [hix]
    repeat(first|refine QV QP ?_|refine QZ ?_|refine qcT rfl ?_|refine qcF rfl ?_|refine QV QL ?_|refine QV QA ?_|refine QV (rr_not rfl rfl) ?_)
    exact E_ret1 rfl rfl fun w hm => hm.meetsB (S := ⟨fun (_ : Value × List Value × (Nat → Prop)) => True, fun _ => .int .i64 (idx S s : Int), fun x => stL g6 gm g7 x.1 vN x.2.1 x.2.2 S⟩) (.slice aS S.length cS, vss, F) trivial [0, 1, 2, 3, 4] (by decide) rfl
  · have hst : stateI S s = (S.length, S ++ [s]) := if_neg c
    rw [hst]
    have hn : nameI s ∉ S.map nameI := fun h => c (hmn.1 h)
    have hadd := mapAt_add hn
    have hnone : mapAt (S.map nameI) (nameI s) = none := if_neg hn
    rw [List.length_map] at hadd
    clear hix hmn
    repeat(first|((first|refine TW_plain rfl rfl ?_|refine TW_gmet rfl rfl rfl rfl ?_);first|refine QW QP ?_|refine QW (rr_lookNumN (K := strK) (x := nameI s) Und.eq zero_i64 (i := 1) rfl rfl rfl hok hn) ?_|refine QW QL ?_|refine QW QA ?_|refine QW (rr_not rfl rfl) ?_)|refine TW_done ?_)
    repeat(first|refine QV QP ?_|refine QZ ?_|refine qcT rfl ?_|refine qcF rfl ?_|refine QV (rr_load1 (v := .slice aS S.length cS) TyC.ty rfl (at_blk (i := 2) rfl rfl)) ?_|refine QV QL ?_|refine QV QA ?_|refine QV (rr_not rfl rfl) ?_)
    refine T_ord ([blkO g6 #[.map (some gm)] 155, rowO 60 3 vl s.length (s.flatMap itC)]) (.calm 0 (.calm 1 (.calm 2 (.calm 3 (.one 4 (.done)))))) (sub_pick [0, 5] (by decide) rfl) (by kernel_rfl) (by kernel_rfl) (by intro c a d v w h; cases d <;> exact h) ?_
    repeat(first|((first|refine TW_plain rfl rfl ?_|refine TW_gmet rfl rfl rfl rfl ?_);first|refine QW QP ?_|refine QW (rr_load1 (v := .map (some gm)) TyC.ty rfl (at_blk (i := 0) rfl rfl)) ?_|refine QW QL ?_|refine QW QA ?_|refine QW (rr_not rfl rfl) ?_)|refine TW_done ?_)
    refine TW_call rfl (he1 EntersC.en rfl rfl) (fun w hm => name_calls vl s w (Sl.of_own (hm.get (i := 1) rfl)) hs hsl) rfl rfl rfl ?_
    repeat(first|((first|refine TW_plain rfl rfl ?_|refine TW_gmet rfl rfl rfl rfl ?_);first|refine QW QP ?_|refine QW QL ?_|refine QW QA ?_|refine QW (rr_not rfl rfl) ?_)|refine TW_done ?_)
    refine TW_one rfl ?_
    refine TL_mapSet (i := 1) (x := nameI s) (v := .int .i64 (S.length : Int)) strK Und.eq rfl rfl rfl rfl hok (by omega) ?_
    conv=>arg 8;simp only[zA,zB,zC,zD,zE,zF,zG,zH,zI,rowS,ret,id_eq]
    rw [hadd, hnone, if_neg (by decide)]
    refine TW_on (sub_pick [0, 5] (by decide) rfl) ?_
    repeat(first|((first|refine TW_plain rfl rfl ?_|refine TW_gmet rfl rfl rfl rfl ?_);first|refine QW QP ?_|refine QW QL ?_|refine QW QA ?_|refine QW (rr_not rfl rfl) ?_)|refine TW_done ?_)
    repeat(first|refine QV QP ?_|refine QZ ?_|refine qcT rfl ?_|refine qcF rfl ?_|refine QV (rr_load1 (v := .slice aS S.length cS) TyC.ty rfl (at_blk (i := 2) rfl rfl)) ?_|refine QV QL ?_|refine QV QA ?_|refine QV (rr_not rfl rfl) ?_)
    refine TL_slv (i := 5) rfl fun hl1 hl2 => ?_
    refine TL_push1 (i := 3) rfl rfl hl1 hl2 rfl rfl (fun z h => by cases h; rfl) (by omega) (by omega) rfl fun z vS' => ?_
    conv=>arg 8;simp only[zA,zB,zC,zD,zE,zF,zG,zH,zI,rowS,ret,id_eq]
    refine TL_merge (elsO (sliceS itS) (fun k => F k ∨ vl.ownBlock = some k) ((vss.map fun v => [v]) ++ [[vl]]) (S ++ [s])) 5 4 [0, 1, 2, 3] (by decide) rfl rfl rfl (fun k hk => hk.elim (fun h => by cases h) fun h => h.elim (fun h => .inr (.inr h)) fun h => .inl (.inl h)) (fun w hr he => els_snoc he (it_of_row hr) (row_foot hr)) ?_
    conv=>arg 8;simp only[zA,zB,zC,zD,zE,zF,zG,zH,zI,rowS,ret,id_eq]
    repeat(first|refine QV QP ?_|refine QZ ?_|refine qcT rfl ?_|refine qcF rfl ?_|refine QV QL ?_|refine QV QA ?_|refine QV (rr_not rfl rfl) ?_)
    refine TL_slv (i := 3) rfl fun hv1 hv2 => TL_store1 (i := 2) rfl rfl rfl hv1 hv2 rfl ?_
    conv=>arg 8;simp only[zA,zB,zC,zD,zE,zF,zG,zH,zI,rowS,ret,id_eq]
    repeat(first|refine QV QP ?_|refine QZ ?_|refine qcT rfl ?_|refine qcF rfl ?_|refine QV QL ?_|refine QV QA ?_|refine QV (rr_not rfl rfl) ?_)
    exact E_ret1 rfl rfl fun w hm => hm.meetsB (S := ⟨fun (_ : Value × List Value × (Nat → Prop)) => True, fun _ => .int .i64 (S.length : Int), fun x => stL g6 gm g7 x.1 vN x.2.1 x.2.2 (S ++ [s])⟩) (vS', vss ++ [vl], fun k => F k ∨ vl.ownBlock = some k) trivial [0, 1, 2, 3, 4] (by decide) (by dsimp only [stL]; rw [List.map_append, List.map_append, List.length_append]; rfl)
end Go.Proofs.Ytlojfbnimmdehaa.eng

/- Els -/
namespace Go.Proofs.Ytlojfbnimmdehaa.eng
open Go.RowKit kit mix
section
variable {α : Type} {s : Shp α} {F : Nat → Prop} {vs : List Value} {S : List (List α)} {W : Base} {L : List Own} {w : World}
theorem els_count (h : (elsO (sliceS s) F (vs.map fun v => [v]) S).holds w) : vs.length = S.length := by have := h.1.1; rwa [List.length_map] at this
theorem els_is (h : (elsO (sliceS s) F (vs.map fun v => [v]) S).holds w) {q : Nat} (hq : q < S.length) {v : Value} (hv : vs[q]? = some v) : SlF s F w v S[q] := by
  have hnv : q < vs.length := (List.getElem?_eq_some_iff.1 hv).1
  obtain ⟨v', e, hs⟩ := h.1.2 q hq (by rw [List.length_map]; exact hnv)
  rw [List.getElem_map] at e
  have h2 := (List.getElem?_eq_some_iff.1 hv).2
  rw [h2] at e
  rw [(List.cons.inj e).1]
  exact hs
theorem els_form (h : (elsO (sliceS s) F (vs.map fun v => [v]) S).holds w) {q : Nat} (hq : q < S.length) {v : Value} (hv : vs[q]? = some v) : ∃ base cap, v = .slice base S[q].length cap ∧ S[q].length ≤ cap ∧ cap ≤ 9223372036854775807 ∧ (0 < S[q].length → ∃ b off, base = some ⟨b, off, none⟩) := by
  obtain ⟨base, cap, e, h1, h2, h3⟩ := els_is h hq hv
  exact ⟨base, cap, e, h1, by unfold maxLen at h2; omega, fun hn => let ⟨b, off, h4, _⟩ := h3 hn; ⟨b, off, h4⟩⟩
theorem els_sl {f : α → List Value} {c : Nat} {hc : ∀ a, (f a).length = c} {p : α → Prop} (hc0 : 0 < c) {i : Nat} (hi : L[i]? = some (elsO (sliceS (flatS f c hc p)) F (vs.map fun v => [v]) S)) {q : Nat} (hq : q < S.length) {v : Value} (hv : vs[q]? = some v) : SlL W L v S[q].length (S[q].flatMap f) := fun w hm =>
  SlF.flat hc0 (els_is (hm.get hi) hq hv)
end
end Go.Proofs.Ytlojfbnimmdehaa.eng

/- Fam -/
namespace Go.Proofs.Ytlojfbnimmdehaa.eng
open Go.RowKit kit mix
def famP (D : Nat → Prop) (f : Nat → Own) : Own where
  blk := none
  more := fun k => ∃ i, D i ∧ (f i).foot k
  holds := fun w => (∀ i, D i → (f i).holds w) ∧ ∀ i j, D i → D j → i ≠ j → ∀ k, (f i).foot k → ¬ (f j).foot k
  lt := fun w h k hk => by
    rcases hk with hk | ⟨i, hi, hk⟩
    · cases hk
    · exact (f i).lt w (h.1 i hi) k hk
  stay := fun w w' h hs hb => ⟨fun i hi => (f i).stay w w' (h.1 i hi) hs fun k hk => hb k (.inr ⟨i, hi, hk⟩), h.2⟩
theorem fam_congr {D D' : Nat → Prop} {f f' : Nat → Own} (h1 : ∀ k, D' k → D k) (h2 : ∀ k, D' k → f' k = f k) (w : World) (h : (famP D f).holds w) : (famP D' f').holds w :=
  ⟨fun i hi => by rw [h2 i hi]; exact h.1 i (h1 i hi), fun i j hi hj hij => by rw [h2 i hi, h2 j hj]; exact h.2 i j (h1 i hi) (h1 j hj) hij⟩
theorem fam_foot {D D' : Nat → Prop} {f f' : Nat → Own} (h1 : ∀ k, D' k → D k) (h2 : ∀ k, D' k → f' k = f k) (k : Nat) (h : (famP D' f').foot k) : (famP D f).foot k := by
  rcases h with h | ⟨i, hi, hk⟩
  · cases h
  · exact .inr ⟨i, h1 i hi, by rw [← h2 i hi]; exact hk⟩
/-- one more -/
def upd (f : Nat → Own) (i : Nat) (o : Own) : Nat → Own := fun k => if k = i then o else f k
theorem upd_ne {f : Nat → Own} {i j : Nat} {o : Own} (h : j ≠ i) : upd f i o j = f j := by unfold upd; rw [if_neg h]
theorem upd_eq {f : Nat → Own} {i : Nat} {o : Own} : upd f i o i = o := by unfold upd; rw [if_pos rfl]
theorem fam_put {D : Nat → Prop} {f : Nat → Own} {i : Nat} {o : Own} {w : World} (hi : ¬ D i) (h : (famP D f).holds w) (ho : o.holds w) (ha : ∀ k, (famP D f).foot k → ¬ o.foot k) : (famP (fun k => D k ∨ k = i) (upd f i o)).holds w := by
  have hf : ∀ j, D j → upd f i o j = f j := fun j hj => upd_ne fun e => hi (by subst e; exact hj)
  have hg : upd f i o i = o := upd_eq
  refine ⟨fun j hj => ?_, fun j k hj hk hjk q hq hq' => ?_⟩
  · rcases hj with hj | rfl
    · rw [hf j hj]; exact h.1 j hj
    · rw [hg]; exact ho
  · rcases hj with hj | rfl <;> rcases hk with hk | rfl
    · rw [hf j hj] at hq; rw [hf k hk] at hq'; exact h.2 j k hj hk hjk q hq hq'
    · rw [hf j hj] at hq; rw [hg] at hq'; exact ha q (.inr ⟨j, hj, hq⟩) hq'
    · rw [hg] at hq; rw [hf k hk] at hq'; exact ha q (.inr ⟨k, hk, hq'⟩) hq
    · exact hjk rfl
theorem fam_putF {D : Nat → Prop} {f : Nat → Own} {i : Nat} {o : Own} (hi : ¬ D i) (k : Nat) (h : (famP (fun k => D k ∨ k = i) (upd f i o)).foot k) : (famP D f).foot k ∨ o.foot k := by
  rcases h with h | ⟨j, hj, hk⟩
  · cases h
  · rcases hj with hj | rfl
    · exact .inl (.inr ⟨j, hj, by rw [upd_ne fun e => hi (by subst e; exact hj)] at hk; exact hk⟩)
    · exact .inr (by rw [upd_eq] at hk; exact hk)
section
variable {P : Program} {n : Nat} {W : Base} {fr : Fr} {L : List Own} {Q : Exit → Act → World → Prop} {ops : Array Oper} {rest : List Oper} {d : Nat}
theorem Mem.split {w : World} {q : Nat} {o : Own} (o1 o2 : Own) (h : Mem W L w) (hq : L[q]? = some o) (h1 : ∀ w, o.holds w → o1.holds w) (h2 : ∀ w, o.holds w → o2.holds w) (f1 : ∀ k, o1.foot k → o.foot k) (f2 : ∀ k, o2.foot k → o.foot k) (ha : ∀ w, o.holds w → ∀ k, o1.foot k → ¬ o2.foot k) : Mem W (L.set q o1 ++ [o2]) w := by
  have hr := h.reown o1 hq h1 f1
  have hoq := h.owns.all q o hq
  have hlen : q < L.length := (List.getElem?_eq_some_iff.1 hq).1
  refine ⟨h.low, OwnsP.both hr.owns (OwnsP.one (h2 w hoq.1) fun k hk => hoq.2 k (f2 k hk)) fun i j a b hi hj k hk hk' => ?_⟩
  match j, hj with
  | 0, hj =>
    simp only [List.getElem?_cons_zero, Option.some.injEq] at hj; subst hj
    by_cases e : q = i
    · subst e
      rw [List.getElem?_set_self hlen] at hi
      simp only [Option.some.injEq] at hi; subst hi
      exact ha w hoq.1 k hk hk'
    · rw [List.getElem?_set_ne e] at hi
      exact h.owns.apart i q a o (Ne.symm e) hi hq k hk (f2 k hk')
  | j + 1, hj => simp at hj
theorem Mem.merge2A {w : World} (o : Own) (i j : Nat) (js : List Nat) {o1 o2 : Own} {R : List Own} (h : Mem W L w) (hn : ([i, j] ++ js).Nodup) (h1 : L[i]? = some o1) (h2 : L[j]? = some o2) (hR : R = js.filterMap fun i => L[i]?) (hf : ∀ k, o.foot k → o1.foot k ∨ o2.foot k) (hh : ∀ w, o1.holds w → o2.holds w → (∀ k, o1.foot k → ¬ o2.foot k) → o.holds w) : Mem W (R ++ [o]) w := by
  have hij : i ≠ j := fun e => by subst e; simp at hn
  have ha := h.owns.apart i j o1 o2 hij h1 h2
  refine Mem.merge o (h.pick ([i, j] ++ js) hn ?_) hf (fun a b => hh w a b ha)
  rw [List.filterMap_append, ← hR]
  congr 1
  rw [List.filterMap_cons_some (by exact h1), List.filterMap_cons_some (by exact h2)]; rfl
theorem Mem.take {w : World} {q : Nat} {D : Nat → Prop} {f : Nat → Own} (i : Nat) (h : Mem W L w) (hq : L[q]? = some (famP D f)) (hi : D i) : Mem W (L.set q (famP (fun k => D k ∧ k ≠ i) f) ++ [f i]) w :=
  h.split _ _ hq (fun w h => fam_congr (fun k h => h.1) (fun _ _ => rfl) w h) (fun w h => h.1 i hi) (fun k h => fam_foot (fun k h => h.1) (fun _ _ => rfl) k h) (fun k h => .inr ⟨i, hi, h⟩) fun w h k hk hk' => by
    rcases hk with hk | ⟨j, ⟨hj, hne⟩, hk⟩
    · cases hk
    · exact h.2 j i hj hi hne k hk hk'
theorem T_take {c : Code} {q : Nat} {D : Nat → Prop} {f : Nat → Own} (i : Nat) (hq : L[q]? = some (famP D f)) (hi : D i) (h : T P n W c Q fr (L.set q (famP (fun k => D k ∧ k ≠ i) f) ++ [f i])) : T P n W c Q fr L := ⟨fun a w hr hm => h.go a w hr (hm.take i hq hi)⟩
theorem TL_take {q : Nat} {D : Nat → Prop} {f : Nat → Own} (i : Nat) (hq : L[q]? = some (famP D f)) (hi : D i) (h : TL P n W ops Q rest fr (L.set q (famP (fun k => D k ∧ k ≠ i) f) ++ [f i])) : TL P n W ops Q rest fr L := ⟨fun a w hr hm => h.go a w hr (hm.take i hq hi)⟩
theorem Mem.put {w : World} {D D' : Nat → Prop} {f f' : Nat → Own} {o : Own} {R : List Own} (x q j : Nat) (js : List Nat) (h : Mem W L w) (hn : ([q, j] ++ js).Nodup) (hq : L[q]? = some (famP D f)) (hj : L[j]? = some o) (hR : R = js.filterMap fun i => L[i]?) (hx : ¬ D x) (hD : ∀ k, D' k → D k ∨ k = x) (hf : ∀ k, D' k → f' k = upd f x o k) : Mem W (R ++ [famP D' f']) w :=
  h.merge2A _ q j js hn hq hj hR (fun k hk => fam_putF hx k (fam_foot hD hf k hk)) fun w h1 h2 h3 => fam_congr hD hf w (fam_put hx h1 h2 h3)
theorem TL_put {D D' : Nat → Prop} {f f' : Nat → Own} {o : Own} {R : List Own} (x q j : Nat) (js : List Nat) (hn : ([q, j] ++ js).Nodup) (hq : L[q]? = some (famP D f)) (hj : L[j]? = some o) (hR : R = js.filterMap fun i => L[i]?) (hx : ¬ D x) (hD : ∀ k, D' k → D k ∨ k = x) (hf : ∀ k, D' k → f' k = upd f x o k) (h : TL P n W ops Q rest fr (R ++ [famP D' f'])) : TL P n W ops Q rest fr L := ⟨fun a w hr hm => h.go a w hr (hm.put x q j js hn hq hj hR hx hD hf)⟩
theorem E_put {e : Exit} {D D' : Nat → Prop} {f f' : Nat → Own} {o : Own} {R : List Own} (x q j : Nat) (js : List Nat) (hn : ([q, j] ++ js).Nodup) (hq : L[q]? = some (famP D f)) (hj : L[j]? = some o) (hR : R = js.filterMap fun i => L[i]?) (hx : ¬ D x) (hD : ∀ k, D' k → D k ∨ k = x) (hf : ∀ k, D' k → f' k = upd f x o k) (h : E n W e Q fr (R ++ [famP D' f'])) : E n W e Q fr L := ⟨fun a w hr hm => h.go a w hr (hm.put x q j js hn hq hj hR hx hD hf)⟩
theorem at_hold {q : Nat} {o : Own} {p : Addr} {v : Value} (hq : L[q]? = some o) (h : ∀ w, o.holds w → w.cell? p = some v) : At W L p v := fun w hm => h w (hm.get hq)
theorem row_cell {g off size cap m k : Nat} {e : TypeId} {xs : List Value} {v : Value} {w : World} (h : (rowO e size (.slice (some ⟨g, 0, none⟩) m cap) k xs).holds w) (hv : xs[off]? = some v) : w.cell? ⟨g, off, none⟩ = some v := by
  have h : w.ownsRow 0 e size (.slice (some ⟨g, 0, none⟩) m cap) k xs := h
  have := h.cells (g := g) rfl off v hv
  rwa [addr_add, Nat.zero_add] at this
/-! ### rows that a function tells -/
def tabA {α : Type} (len : Nat) (f : Nat → α) : List α := (List.range len).map f
section
variable {α : Type}
theorem tabA_len (len : Nat) (f : Nat → α) : (tabA len f).length = len := by simp [tabA]
theorem tabA_get {len : Nat} (f : Nat → α) {k : Nat} (h : k < len) : (tabA len f)[k]? = some (f k) := by simp [tabA, h]
theorem tabA_set {len : Nat} (f g : Nat → α) (k : Nat) (v : α) (h : ∀ i, i < len → g i = if i = k then v else f i) : (tabA len f).set k v = tabA len g := by
  apply List.ext_getElem?
  intro i
  rw [List.getElem?_set]
  by_cases hi : i < len
  · rw [tabA_get g hi, h i hi]
    by_cases e : k = i
    · subst e; simp [tabA_len, hi]
    · rw [if_neg e, if_neg (fun e' => e e'.symm), tabA_get f hi]
  · have h1 : (tabA len g)[i]? = none := List.getElem?_eq_none (by rw [tabA_len]; omega)
    have h2 : (tabA len f)[i]? = none := List.getElem?_eq_none (by rw [tabA_len]; omega)
    rw [h1, h2]
    by_cases e : k = i
    · subst e; simp [tabA_len, hi]
    · rw [if_neg e]
theorem tabA_congr {len : Nat} {f g : Nat → α} (h : ∀ i, i < len → f i = g i) : tabA len f = tabA len g := by
  unfold tabA
  apply List.map_congr_left
  intro i hi
  exact h i (by simpa using hi)
theorem tabA_const (val : α → Value) (a : α) (len : Nat) : (tabA len fun _ => a).map val = List.replicate len (val a) := by
  unfold tabA
  rw [List.map_map]
  apply List.ext_getElem?
  intro i
  by_cases h : i < len <;> simp [h]
/-- a row of one-cell elements -/
def rowA (e : TypeId) (val : α → Value) (g len : Nat) (f : Nat → α) : Own := rowO e 1 (.slice (some ⟨g, 0, none⟩) len len) len ((tabA len f).map val)
theorem rowA_congr {e : TypeId} {val : α → Value} {g len : Nat} {f f' : Nat → α} (h : ∀ i, i < len → f i = f' i) : rowA e val g len f = rowA e val g len f' := by unfold rowA; rw [tabA_congr h]
theorem at_rowA {e : TypeId} {val : α → Value} {i g len k : Nat} {f : Nat → α} (hi : L[i]? = some (rowA e val g len f)) (hk : k < len) : At W L ⟨g, 0 + k, none⟩ (val (f k)) := at_row hi (by rw [Nat.zero_add, List.getElem?_map, tabA_get f hk]; rfl)
theorem rowA_cell {e : TypeId} {val : α → Value} {g len k : Nat} {f : Nat → α} {w : World} (h : (rowA e val g len f).holds w) (hk : k < len) : w.cell? ⟨g, 0 + k, none⟩ = some (val (f k)) := row_cell h (by rw [Nat.zero_add, List.getElem?_map, tabA_get f hk]; rfl)
theorem rowA_set {e : TypeId} {val : α → Value} {g len k : Nat} {v : α} {f f' : Nat → α} (h : ∀ i, i < len → f' i = if i = k then v else f i) : rowO e 1 (.slice (some ⟨g, 0, none⟩) len len) len (((tabA len f).map val).set k (val v)) = rowA e val g len f' := by
  unfold rowA
  rw [← List.map_set, tabA_set f f' k v h]
theorem TL_storeA {e : TypeId} {val : α → Value} {ty : TypeId} {pos : String} {after : Array Edge} {t : TypeId} {p x : Operand} {i g off len : Nat} {v : α} {f : Nat → α} (f' : Nat → α) (hT : Ty P t false 1) (hi : L[i]? = some (rowA e val g len f)) (hp : ev fr p = some (.pointer (some ⟨g, 0 + off, none⟩))) (hx : ev fr x = some (val v)) (h1 : (val v).cells = #[val v]) (h2 : (val v).oneCell' = true) (hk : off < len) (hf : ∀ i, i < len → f' i = if i = off then v else f i)
    (h : TL P n W ops Q rest fr (L.set i (rowA e val g len f'))) : TL P n W ops Q (⟨none, .store t p x, ty, pos, after, none⟩ :: rest) fr L :=
  TL_storeRow hT hi hp hx h1 rfl h2 (by rw [List.length_map, tabA_len, Nat.zero_add]; exact hk) (by rw [Nat.zero_add, rowA_set hf]; exact h)
theorem TL_makeA {t e : TypeId} {x y : Operand} {bytes m : Nat} {k k' : IntKind} {ty : TypeId} {pos : String} {after : Array Edge} (val : α → Value) (z : α) [ElC P t e 1 bytes] [ZeroC P e #[val z]] (hx : ev fr x = some (.int k (m : Int))) (hy : ev fr y = some (.int k' (m : Int))) (hb : bytes * m ≤ 281474976710656) (h63 : m ≤ 9223372036854775807) (hn : Nat.blt d n = true)
    (h : ∀ g, TL P n W ops Q rest ((d, .slice (some ⟨g, 0, none⟩) m m) :: fr) (L ++ [rowA e val g m fun _ => z])) : TL P n W ops Q (⟨some d, .makeSlice t x y, ty, pos, after, none⟩ :: rest) fr L :=
  TL_makeRow hx hy hb h63 hn fun g => by
    have := h g
    unfold rowA at this
    rw [tabA_const] at this
    exact this
end
abbrev boolV (b : Bool) : Value := .bool b
/-- rows of rows, all of one length -/
def rowsV (m : Nat) (g : Nat) : Value := .slice (some ⟨g, 0, none⟩) m m
structure BitsR (w : World) (g N m : Nat) (O : Nat → Nat → Bool) : Prop where
  ex : ∃ gs : Nat → Nat, ∀ i, i < N → w.cell? ⟨g, 0 + i, none⟩ = some (rowsV m (gs i)) ∧ ∀ a, a < m → w.cell? ⟨gs i, 0 + a, none⟩ = some (boolV (O i a))
theorem bits_of {T T' : TypeId} {w : World} {g N m : Nat} {gs : Nat → Nat} {O : Nat → Nat → Bool} (h1 : (rowA T (rowsV m) g N gs).holds w) (h2 : (famP (fun i => i < N) fun i => rowA T' boolV (gs i) m (O i)).holds w) : BitsR w g N m O :=
  ⟨gs, fun _ hi => ⟨rowA_cell h1 hi, fun _ ha => rowA_cell (h2.1 _ hi) ha⟩⟩
end
end Go.Proofs.Ytlojfbnimmdehaa.eng

/- TreeS -/
namespace Go.Proofs.Ytlojfbnimmdehaa.eng
open Go.RowKit kit mix gramL treeL
/-- a tree that can be read, its blocks being in F -/
inductive TreeIs (F : Nat → Prop) (w : World) : List Value → Tree → Prop
  | mk {p k : Int} {kids : List Tree} {base : Option Addr} {cap : Nat} (css : List (List Value)) : kit.okI64 p → kit.okI64 k → kids.length ≤ cap → cap ≤ maxLen → css.length = kids.length →
    (∀ i (h : i < kids.length) (h' : i < css.length), TreeIs F w css[i] kids[i]) → (0 < kids.length → ∃ b off, base = some ⟨b, off, none⟩ ∧ F b ∧ ∀ i (_ : i < kids.length) (h' : i < css.length), Rd w b (off + i * 3) css[i]) →
    TreeIs F w [.int .i64 p, .int .i64 k, .slice base kids.length cap] (.mk p k kids)
theorem TreeIs.len3 {F : Nat → Prop} {w : World} {cs : List Value} {t : Tree} (h : TreeIs F w cs t) : cs.length = 3 := by
  cases h; rfl
theorem TreeIs.stayed {F : Nat → Prop} {w w' : World} {cs : List Value} {t : Tree} (h : TreeIs F w cs t) (hk : ∀ k, F k → w'.heap[k]? = w.heap[k]?) : TreeIs F w' cs t := by
  induction h with
  | mk css h1 h2 h3 h4 h5 h6 h7 ih =>
    refine .mk css h1 h2 h3 h4 h5 ih fun hl => ?_
    obtain ⟨b, off, e, hF, hr⟩ := h7 hl
    exact ⟨b, off, e, hF, fun i hi hi' => rd_stay (hr i hi hi') (hk b hF)⟩
theorem TreeIs.mono {F F' : Nat → Prop} {w : World} {cs : List Value} {t : Tree} (h : TreeIs F w cs t) (hk : ∀ k, F k → F' k) : TreeIs F' w cs t := by
  induction h with
  | mk css h1 h2 h3 h4 h5 h6 h7 ih =>
    refine .mk css h1 h2 h3 h4 h5 ih fun hl => ?_
    obtain ⟨b, off, e, hF, hr⟩ := h7 hl
    exact ⟨b, off, e, hk b hF, hr⟩
def treeS : Shp Tree := ⟨3, TreeIs, fun h => h.len3, fun h hk => h.stayed hk, fun h hk => h.mono hk⟩
def treeV (p k : Int) (v : Value) : Value := .agg #[.int .i64 p, .int .i64 k, v]
/-- a tree that is a value -/
def TreeR (F : Nat → Prop) (w : World) (v : Value) (t : Tree) : Prop := ∃ vk, v = treeV t.prod t.tok vk ∧ kit.okI64 t.prod ∧ kit.okI64 t.tok ∧ SlF treeS F w vk t.kids
theorem TreeR.gr {w w' : World} {v : Value} {t : Tree} (h : TreeR (fun k => k < w.heap.size) w v t) (hg : Gr w w') : TreeR (fun k => k < w'.heap.size) w' v t :=
  let ⟨vk, h1, h2, h3, h4⟩ := h; ⟨vk, h1, h2, h3, h4.gr hg⟩
section
variable {P : Program} {n : Nat} {W : Base} {fr : Fr} {L : List Own} {dst : Option Tmp} {ty : TypeId} {pos : String} {after : Array Edge} {guard : Option (Nat × Bool)} {f : FuncId} {ts : Array TypeId} {cl x1 x2 : Operand} {v1 v2 : Value} {first cap : Array Value}
theorem he5 {x3 x4 x5 : Operand} {v3 v4 v5 : Value} (hf : Enters P f) (hc : ev fr cl = some (.func (.func f) #[] #[])) (h1 : ev fr x1 = some v1) (h2 : ev fr x2 = some v2) (h3 : ev fr x3 = some v3) (h4 : ev fr x4 = some v4) (h5 : ev fr x5 = some v5) : ∀ a w, Rep n a fr → (execOp a.eval ⟨dst, .call { callee := .value cl, args := #[x1, x2, x3, x4, x5], argTypes := ts }, ty, pos, after, guard⟩).run P w = .ok (.enter f #[v1, v2, v3, v4, v5]) w := fun a w hr => by
  have hf' : ∀ args w, (callFunc f args).run P w = .ok (.enter f args) w := hf
  simp [execOp, resolve, hr.ev hc, hr.ev h1, hr.ev h2, hr.ev h3, hr.ev h4, hr.ev h5, Deferred.ofValue, invoke, hf']
end
end Go.Proofs.Ytlojfbnimmdehaa.eng

/- FactsT -/
namespace Go.Proofs.Ytlojfbnimmdehaa.eng
open gramL factsL treeL countL
theorem fallsT {n : Nat} {l : List gramL.Prod} (hf : Fine n l) : Falls (stepS l) (fun s => okR n s ∧ s.R.getD 0 false = true) (lackS n) :=
  ⟨fun s hs => ⟨(fallsS hf).keep s hs.1, roundL_keep l ⟨s.E, s.R, s.M, false⟩ hs.2⟩, fun s hs => (fallsS hf).dec s hs.1⟩
theorem closed_of {g : Gram} {n : Nat} (hck : checkG g = 0) (hn : g.nons = n) : ClosedF g.prods (ofS n g.prods).E (ofF n g.prods) (ofW n g.prods) (ofS n g.prods).R (ofS n g.prods).M := by
  obtain ⟨_, _, a3, _⟩ := checkG_ok hck
  have hf := fine_of hck hn
  have hS : ClosedS g.prods (ofS n g.prods).E (ofS n g.prods).R (ofS n g.prods).M ∧ okR n (ofS n g.prods) ∧ (ofS n g.prods).R.getD 0 false = true := by
    obtain ⟨s', h1, h2, h3⟩ := fix_end (fallsT hf) _ ⟨List.replicate n false, (List.replicate n false).set 0 true, List.replicate n false, false⟩ ⟨⟨by simp, by simp, by simp⟩, by
      rw [List.getD_eq_getElem?_getD, List.getElem?_set_self (by simp; omega)]; rfl⟩ (Nat.le_refl _)
    have e : ofS n g.prods = roundL g.prods ⟨s'.E, s'.R, s'.M, false⟩ := h3
    obtain ⟨_, k2, k3, k4, k5⟩ := roundL_still g.prods ⟨s'.E, s'.R, s'.M, false⟩ h2
    have hk := (fallsT hf).keep s' h1
    rw [e]
    refine ⟨?_, hk⟩
    rw [k2, k3, k4]
    exact k5
  obtain ⟨hS1, hS2, hS3⟩ := hS
  have hF : okW n (ofF n g.prods) ∧ ∀ p ∈ g.prods, allF (ofS n g.prods).M p.2 true = true → (ofF n g.prods).getD p.1.toNat 0 ||| beginF (ofS n g.prods).E (ofF n g.prods) p.2 0 = (ofF n g.prods).getD p.1.toNat 0 := by
    obtain ⟨s', h1, h2, h3⟩ := fix_end (fallsF (E := (ofS n g.prods).E) (M := (ofS n g.prods).M) hf) _ (List.replicate n 0) ⟨by simp, fun x hx => by rw [List.eq_of_mem_replicate hx]; decide⟩ (Nat.le_refl _)
    obtain ⟨_, h4, h5⟩ := passF_still _ _ _ h2
    have h6 : ofF n g.prods = s' := by unfold ofF setsF; rw [h3]; exact h4
    rw [h6]; exact ⟨h1, h5⟩
  have hW : ((ofW n g.prods).getD 0 0).testBit 63 = true ∧ (∀ p ∈ g.prods, ∀ pre x post, p.2 = pre ++ x :: post → x.1 = 2 → (ofW n g.prods).getD x.2.toNat 0 ||| beginF (ofS n g.prods).E (ofF n g.prods) post ((ofW n g.prods).getD p.1.toNat 0) = (ofW n g.prods).getD x.2.toNat 0) ∧ okW n (ofW n g.prods) := by
    have hfl := fallsW (E := (ofS n g.prods).E) hF.1 hf
    have hfl2 : Falls (fun W => passW (ofS n g.prods).E (ofF n g.prods) g.prods W false) (fun W => okW n W ∧ (W.getD 0 0).testBit 63 = true) lack := ⟨fun s hs => ⟨hfl.keep s hs.1, passW_keep g.prods s false hs.2⟩, fun s hs => hfl.dec s hs.1⟩
    obtain ⟨s', h1, h2, h3⟩ := fix_end hfl2 _ ((List.replicate n 0).set 0 9223372036854775808) ⟨⟨by simp, fun x hx => by
      rcases List.mem_or_eq_of_mem_set hx with h | h
      · rw [List.eq_of_mem_replicate h]; decide
      · rw [h]; decide⟩, by rw [List.getD_eq_getElem?_getD, List.getElem?_set_self (by simp; omega)]; decide⟩ (Nat.le_refl _)
    obtain ⟨_, h4, h5⟩ := passW_still _ _ _ h2
    have h6 : ofW n g.prods = s' := by unfold ofW setsW; rw [h3]; exact h4
    rw [h6]
    exact ⟨h1.2, h5, h1.1⟩
  exact ⟨hS1, hF.2, hW.2.1, hS3, hW.1⟩
end Go.Proofs.Ytlojfbnimmdehaa.eng

/- CountA -/
namespace Go.Proofs.Ytlojfbnimmdehaa.eng
open Go.RowKit kit mix gramL countL
theorem spanLaid : laidOutB Try.prog = true := by kernel_rfl
theorem spanRow : (96 : TypeId) < Try.prog.types.size := of_decide_eq_true (by kernel_rfl)
theorem spanWide : (match Try.prog.underlying 96 with | some (.array _ _) | some (.struct _) => true | _ => false) = true := by kernel_rfl
def spanV (x : Span) : Value := .agg #[.int .i64 x.1, .int .i64 x.2.1, .int .i64 x.2.2]
theorem span_key (x : Span) (h : kit.okI64 x.1 ∧ kit.okI64 x.2.1 ∧ kit.okI64 x.2.2) : ∃ l, keyOf Try.prog 96 (spanV x) = some l := by
  obtain ⟨a, b, c⟩ := x
  obtain ⟨h1, h2, h3⟩ := h
  have e1 : Try.prog.keyType 96 = true := by kernel_rfl
  have e2 : Try.prog.cellsOf 96 = 3 := by kernel_rfl
  have e3 : Try.prog.cellsOf 3 = 1 := by kernel_rfl
  have e4 : ∃ d, Try.prog.types.size + 1 = d + 2 := ⟨Try.prog.types.size - 1, by have : 0 < Try.prog.types.size := Nat.lt_of_le_of_lt (Nat.zero_le 96) spanRow; omega⟩
  obtain ⟨d, e4⟩ := e4
  have key : ∀ n : Int, kit.okI64 n → Try.prog.keyLits (d + 1) 3 [.int .i64 n] = some [.int .i64 n] := fun n hn => by
    have hw : (Lit.int .i64 n).wf = true := by
      have h0 : -9223372036854775808 ≤ n := hn.1
      have h1 : n ≤ 9223372036854775807 := hn.2
      simp [Lit.wf, IntKind.min, IntKind.max, IntKind.signed, IntKind.bits, h0, h1]
    simp [Program.keyLits, Try.underlying3, hw]
  refine ⟨.string (keyBytes ([.int .i64 a, .int .i64 b, .int .i64 c])), ?_⟩
  have hl : Try.prog.keyLits (d + 2) 96 [.int .i64 a, .int .i64 b, .int .i64 c] = some [.int .i64 a, .int .i64 b, .int .i64 c] := by
    unfold Program.keyLits
    simp [Try.underlying96, e2, e3, key _ h1, key _ h2, key _ h3]
  have hf : (spanV (a, b, c)).formed Try.prog 96 = true := by simp [spanV, Value.formed, Try.underlying96, e2]
  unfold keyOf
  rw [Try.underlying96]
  show (if (Try.prog.keyType 96 && (spanV (a, b, c)).formed Try.prog 96) = true then (Try.prog.keyLits (Try.prog.types.size + 1) 96 [.int .i64 a, .int .i64 b, .int .i64 c]).map (fun ls => Lit.string (keyBytes ls)) else none) = _
  rw [e1, hf, e4, hl]
  rfl
set_option maxRecDepth 100000 in
def spanK : KeyT Try.prog 96 Span where
  kv := spanV
  ok x := kit.okI64 x.1 ∧ kit.okI64 x.2.1 ∧ kit.okI64 x.2.2
  law := deep_law_laid spanLaid (m := 2) (by omega) spanRow (by kernel_rfl) spanWide
  key := span_key
  inj x y h := by
    obtain ⟨a, b, c⟩ := x
    obtain ⟨a', b', c'⟩ := y
    simp only [spanV, Value.agg.injEq, Array.mk.injEq, List.cons.injEq, Value.int.injEq, true_and, and_true] at h
    simp [h]
theorem zero_int (w : World) : (zeroValue 3).run Try.prog w = .ok (.int .i64 0) w := by kernel_rfl
theorem span_ok {m : Int} {a b : Nat} (h : kit.okI64 m) (ha : a ≤ 9223372036854775807) (hb : b ≤ 9223372036854775807) : spanK.ok (m, (a : Int), (b : Int)) := by
  show kit.okI64 m ∧ kit.okI64 (a : Int) ∧ kit.okI64 (b : Int)
  exact ⟨h, ⟨by omega, by omega⟩, ⟨by omega, by omega⟩⟩
def chM (gm : Nat) (c : Chart) (B : Nat) : Own := mapT spanK gm (.int .i64 0) (fun x => .int .i64 (c x : Int)) B
def chV (t n : Int) (vp vw : Value) (gm : Nat) : Array Value := #[.int .i64 t, .int .i64 n, vp, vw, .map (some gm)]
/-- a chart that can be read -/
structure ChR (w : World) (gc gm : Nat) (t n : Int) (vp vw : Value) (word : List Int) (c : Chart) (B : Nat) : Prop where
  cell : w.heap[gc]? = some (.cells (chV t n vp vw gm) 92 (0, 0))
  map : (chM gm c B).holds w
  word : Sl w vw word.length (word.map (.int .i64))
theorem ChR.gr {w w' : World} {gc gm : Nat} {t n : Int} {vp vw : Value} {word : List Int} {c : Chart} {B : Nat} (h : ChR w gc gm t n vp vw word c B) (hg : Gr w w') : ChR w' gc gm t n vp vw word c B :=
  ⟨(hg.block gc (Array.getElem?_eq_some_iff.1 h.cell).1).trans h.cell, (chM gm c B).stay w w' h.map hg.size fun k hk => hg.block k ((chM gm c B).lt w h.map k hk), h.word.gr hg⟩
theorem atMost_calls (m : Int) (w : World) : Calls Try.prog 128 #[.int .i64 m] w (Meets (ret (.int .i64 (min m 2))) w) := by
  refine enter (args := [.int .i64 m]) (n := 5) Try.func128 rfl rfl rfl ?_
  repeat(first|refine QV QP ?_|refine QZ ?_|refine QV (rr_min rfl rfl rfl) ?_|refine QV (rr_min rfl rfl (by omega)) ?_)
  exact E_ret1 rfl rfl fun w hm => hm.ret
theorem checkW_step {t : Int} {l : List Int} {k : Nat} (h : k < l.length) : checkW t (l.drop k) = if l[k] < 0 then 1 else if t ≤ l[k] then 1 else checkW t (l.drop (k + 1)) := by
  rw [List.drop_eq_getElem_cons h, checkW]
theorem at_int {W : World} {L : List Own} {b off : Nat} {l : List Int} (h : Rd W b off (l.map (.int .i64))) {k : Nat} (hk : k < l.length) : At W L ⟨b, off + k, none⟩ (.int .i64 l[k]) := at_rd h (by simp [hk])
set_option maxHeartbeats 2000000 in
theorem checkC_calls (v vw : Value) (g : Gram) (word : List Int) (w : World) (h : GraR (fun k => k < w.heap.size) w v g) (hs : Sl w vw word.length (word.map (.int .i64))) :
    Calls Try.prog 38 #[v, vw] w (Meets (ret (.int .i64 (checkC g word))) w) := by
  have hck := fun w' (hg : Gr w w') => checkG_calls v g w' (h.gr hg)
  obtain ⟨vp, rfl, _, _⟩ := h
  obtain ⟨bw, cw, rfl, h1, h2, h3⟩ := hs
  unfold maxLen at h2
  have hE : checkC g word = if checkG g ≠ 0 then checkG g else if 20 < word.length then 2 else checkW g.terms word := rfl
  generalize checkC g word = e at *
  generalize checkG g = c at *
  obtain ⟨t, n, prods⟩ := g
  dsimp only at *
  refine enter (args := [graV t n vp, .slice bw word.length cw]) (n := 31) Try.func38 rfl rfl rfl ?_
  refine T_seq (T_region (TL_box rfl rfl rfl fun g2 => ?_))
  repeat(first|refine QV QP ?_|refine QZ ?_|refine qcT rfl ?_|refine qcF rfl ?_|refine E_blockX ?_|refine E_blockO rfl ?_|refine qs rfl rfl rfl rfl rfl rfl ?_|((try refine qg rfl rfl rfl ?_);first|refine QV QP ?_|refine QV (rr_loadB (i := 0) TyC.ty rfl rfl rfl) ?_|refine QV QL ?_|refine QV QlT ?_|refine QV QlF ?_|refine QV QgT ?_|refine QV QgF ?_|refine QV QnT ?_|refine QV QnF ?_|refine QV QaA ?_|refine QV QA ?_|refine QV QhT ?_|refine QV QhF ?_))
  refine TL_call (he1 EntersC.en rfl rfl) (fun w hm => hck _ hm.below) rfl rfl rfl ?_
  intro _ _
  by_cases c0 : c = 0
  · rw [if_neg (by simpa using c0)] at hE
    by_cases c1 : 20 < word.length
    · rw [if_pos c1] at hE
      subst hE
      repeat(first|refine QV QP ?_|refine QZ ?_|refine qcT rfl ?_|refine qcF rfl ?_|refine E_blockX ?_|refine E_blockO rfl ?_|refine qs rfl rfl rfl rfl rfl rfl ?_|((try refine qg rfl rfl rfl ?_);first|refine QV QP ?_|refine QV QL ?_|refine QV QlT ?_|refine QV QlF ?_|refine QV QgT ?_|refine QV QgF ?_|refine QV QnT ?_|refine QV QnF ?_|refine QV QaA ?_|refine QV QA ?_|refine QV QhT ?_|refine QV QhF ?_))
      exact E_ret1 rfl rfl fun w hm => hm.ret
    rw [if_neg c1] at hE
    conv=>arg 8;simp only[zA,zB,zC,zD,zE,zF,zG,zH,zI,rowS,ret,id_eq]
    repeat(first|refine QV QP ?_|refine QZ ?_|refine qcT rfl ?_|refine qcF rfl ?_|refine E_blockX ?_|refine E_blockO rfl ?_|refine qs rfl rfl rfl rfl rfl rfl ?_|((try refine qg rfl rfl rfl ?_);first|refine QV QP ?_|refine QV QL ?_|refine QV QlT ?_|refine QV QlF ?_|refine QV QgT ?_|refine QV QgF ?_|refine QV QnT ?_|refine QV QnF ?_|refine QV QaA ?_|refine QV QA ?_|refine QV QhT ?_|refine QV QhF ?_))
    refine T_loop (ι := Nat) (fun k => k ≤ word.length ∧ e = checkW t (word.drop k)) (fun k => [(2, .pointer (some ⟨g2, 0, none⟩)), (16, .slice bw word.length cw), (17, .int .i64 word.length), (18, .int .i64 (k : Int))])
      (fun _ => [blkO g2 (graV t n vp).cells 24]) (fun k => word.length - k) 0 ⟨Nat.zero_le _, hE⟩ (by repeat' (first | exact True.intro | refine And.intro rfl ?_)) rfl ?_
    clear hE hck
    rintro k ⟨i1, i2⟩
    by_cases c6 : k < word.length
    · obtain ⟨b, off, rfl, hr⟩ := h3 (by omega)
      have hat := fun L => at_int (L := L) hr c6
      rw [checkW_step c6] at i2
      generalize word[k] = x at *
      by_cases c7 : x < 0
      · rw [if_pos c7] at i2
        subst i2
        repeat(first|refine QV QP ?_|refine QZ ?_|refine qcT rfl ?_|refine qcF rfl ?_|refine E_blockX ?_|refine E_blockO rfl ?_|refine qs rfl rfl rfl rfl rfl rfl ?_|((try refine qg rfl rfl rfl ?_);first|refine QV QP ?_|refine QV (rr_idx1 Und.eq TyC.ty rfl rfl c6) ?_|refine QV (rr_load1 TyC.ty rfl (hat _)) ?_|refine QV (rr_load1 TyC.ty rfl (at_blk (i := 0) rfl rfl)) ?_|refine QV QL ?_|refine QV QlT ?_|refine QV QlF ?_|refine QV QgT ?_|refine QV QgF ?_|refine QV QnT ?_|refine QV QnF ?_|refine QV QaA ?_|refine QV QA ?_|refine QV QhT ?_|refine QV QhF ?_))
        exact E_ret1 rfl rfl fun w hm => hm.ret
      rw [if_neg c7] at i2
      by_cases c8 : t ≤ x
      · rw [if_pos c8] at i2
        subst i2
        repeat(first|refine QV QP ?_|refine QZ ?_|refine qcT rfl ?_|refine qcF rfl ?_|refine E_blockX ?_|refine E_blockO rfl ?_|refine qs rfl rfl rfl rfl rfl rfl ?_|((try refine qg rfl rfl rfl ?_);first|refine QV QP ?_|refine QV (rr_idx1 Und.eq TyC.ty rfl rfl c6) ?_|refine QV (rr_load1 TyC.ty rfl (hat _)) ?_|refine QV (rr_load1 TyC.ty rfl (at_blk (i := 0) rfl rfl)) ?_|refine QV QL ?_|refine QV QlT ?_|refine QV QlF ?_|refine QV QgT ?_|refine QV QgF ?_|refine QV QnT ?_|refine QV QnF ?_|refine QV QaA ?_|refine QV QA ?_|refine QV QhT ?_|refine QV QhF ?_))
        exact E_ret1 rfl rfl fun w hm => hm.ret
      rw [if_neg c8] at i2
      repeat(first|refine QV QP ?_|refine QZ ?_|refine qcT rfl ?_|refine qcF rfl ?_|refine E_blockX ?_|refine E_blockO rfl ?_|refine qs rfl rfl rfl rfl rfl rfl ?_|((try refine qg rfl rfl rfl ?_);first|refine QV QP ?_|refine QV (rr_idx1 Und.eq TyC.ty rfl rfl c6) ?_|refine QV (rr_load1 TyC.ty rfl (hat _)) ?_|refine QV (rr_load1 TyC.ty rfl (at_blk (i := 0) rfl rfl)) ?_|refine QV QL ?_|refine QV QlT ?_|refine QV QlF ?_|refine QV QgT ?_|refine QV QgF ?_|refine QV QnT ?_|refine QV QnF ?_|refine QV QaA ?_|refine QV QA ?_|refine QV QhT ?_|refine QV QhF ?_))
      exact E_round (k + 1) ⟨by omega, i2⟩ (by show word.length - (k + 1) < word.length - k; omega) (by repeat' (first | exact True.intro | refine And.intro rfl ?_)) rfl
    · rw [List.drop_of_length_le (by omega)] at i2
      have i2 : e = 0 := i2
      subst i2
      repeat(first|refine QV QP ?_|refine QZ ?_|refine qcT rfl ?_|refine qcF rfl ?_|refine E_blockX ?_|refine E_blockO rfl ?_|refine qs rfl rfl rfl rfl rfl rfl ?_|((try refine qg rfl rfl rfl ?_);first|refine QV QP ?_|refine QV QL ?_|refine QV QlT ?_|refine QV QlF ?_|refine QV QgT ?_|refine QV QgF ?_|refine QV QnT ?_|refine QV QnF ?_|refine QV QaA ?_|refine QV QA ?_|refine QV QhT ?_|refine QV QhF ?_))
      exact E_ret1 rfl rfl fun w hm => hm.ret
  · rw [if_pos (by simpa using c0)] at hE
    subst hE
    repeat(first|refine QV QP ?_|refine QZ ?_|refine qcT rfl ?_|refine qcF rfl ?_|refine E_blockX ?_|refine E_blockO rfl ?_|refine qs rfl rfl rfl rfl rfl rfl ?_|((try refine qg rfl rfl rfl ?_);first|refine QV QP ?_|refine QV QL ?_|refine QV QlT ?_|refine QV QlF ?_|refine QV QgT ?_|refine QV QgF ?_|refine QV QnT ?_|refine QV QnF ?_|refine QV QaA ?_|refine QV QA ?_|refine QV QhT ?_|refine QV QhF ?_))
    exact E_ret1 rfl rfl fun w hm => hm.ret
theorem build_span (a b c : Int) (w : World) : (Instr.build 96 #[(0, .int .i64 a), (1, .int .i64 b), (2, .int .i64 c)]).run Try.prog w = .ok (spanV (a, b, c)) w := by
  unfold spanV
  go_simp
attribute [local irreducible] Instr.build in
set_option maxHeartbeats 2000000 in
theorem one_calls (gc gm : Nat) (t n : Int) (vp vw : Value) (word : List Int) (c : Chart) (B : Nat) (x : Sym) (a b : Nat) (w : World) (h : ChR w gc gm t n vp vw word c B) (hx : kit.okI64 x.2) (hab : a ≤ b) (hb : b ≤ word.length) (hw : word.length ≤ 20) :
    Calls Try.prog 119 #[.pointer (some ⟨gc, 0, none⟩), .agg (symC x).toArray, .int .i64 (a : Int), .int .i64 (b : Int)] w (Meets (ret (.int .i64 (oneF c word x a b : Nat))) w) := by
  obtain ⟨hc, hmap, hs⟩ := h
  have h3 : ∀ (L : List Own), At w L ⟨gc, 3, none⟩ vw := fun L => at_old (by rw [cell_of_row w gc 3 _ _ _ hc]; rfl)
  have h4 : ∀ (L : List Own), At w L ⟨gc, 4, none⟩ (.map (some gm)) := fun L => at_old (by rw [cell_of_row w gc 4 _ _ _ hc]; rfl)
  have hmp : ∀ (L : List Own) w', Mem w L w' → (chM gm c B).holds w' := fun L w' hm => (chM gm c B).stay w w' hmap hm.below.size fun k hk => hm.below.block k ((chM gm c B).lt w hmap k hk)
  obtain ⟨bw, cw, rfl, h5, h6, h7⟩ := hs
  unfold maxLen at h6
  obtain ⟨q, m⟩ := x
  dsimp only at hx
  refine enter (args := [.pointer (some ⟨gc, 0, none⟩), .agg (symC (q, m)).toArray, .int .i64 (a : Int), .int .i64 (b : Int)]) (n := 38) Try.func119 rfl rfl rfl ?_
  refine T_seq (T_region (TL_box rfl rfl rfl fun g5 => ?_))
  unfold oneF
  dsimp only
  by_cases c1 : q = 2
  · rw [if_pos c1]
    repeat(first|refine QV QP ?_|refine QZ ?_|refine qcT rfl ?_|refine qcF rfl ?_|refine qs rfl rfl rfl rfl rfl rfl ?_|((try refine qg rfl rfl rfl ?_);first|refine QV QP ?_|refine QV (rr_load1 TyC.ty rfl (at_blk (i := 0) rfl rfl)) ?_|refine QV QA ?_|refine QV (rr_nilc rfl) ?_|refine QV QeT ?_|refine QV QeF ?_|refine QV QaA ?_))
    refine T_ord ([blkO g5 (symC (q, m)).toArray 71]) (.calm 0 (.calm 1 (.calm 2 (.calm 3 (.calm 4 (.calm 5 (.calm 6 (.calm 7 (.calm 8 (.calm 9 (.calm 10 (.done)))))))))))) (fun _ h => h) (by kernel_rfl) (by kernel_rfl) (by intro c a d v w h; cases d <;> exact h) ?_
    repeat(first|((first|refine TW_plain rfl rfl ?_|refine TW_gmet rfl rfl rfl rfl ?_);first|refine QW QP ?_|refine QW (rr_load1 TyC.ty rfl (at_blk (i := 0) rfl rfl)) ?_|refine QW (rr_load1 TyC.ty rfl (h4 _)) ?_|refine QW (rr_build rfl (build_span _ _ _)) ?_|refine QW (rr_lookM (x := (m, (a : Int), (b : Int))) spanK Und.eq zero_int (hmp _) rfl rfl (span_ok hx (by omega) (by omega)) rfl) ?_|refine QW QA ?_|refine QW (rr_nilc rfl) ?_|refine QW QeT ?_|refine QW QeF ?_|refine QW QaA ?_)|refine TW_skip rfl rfl rfl rfl rfl rfl rfl ?_|refine TW_done ?_)
    repeat(first|refine QV QP ?_|refine QZ ?_|refine qcT rfl ?_|refine qcF rfl ?_|refine qs rfl rfl rfl rfl rfl rfl ?_|((try refine qg rfl rfl rfl ?_);first|refine QV QP ?_|refine QV QA ?_|refine QV (rr_nilc rfl) ?_|refine QV QeT ?_|refine QV QeF ?_|refine QV QaA ?_))
    exact E_ret1 rfl rfl fun w hm => hm.ret
  · rw [if_neg c1]
    by_cases c2 : b = a + 1
    · have hlt : a < word.length := by omega
      obtain ⟨b', off, rfl, hr⟩ := h7 (by omega)
      have hat := fun L => at_int (L := L) hr hlt
      rw [List.getElem?_eq_getElem hlt]
      generalize word[a] = y at *
      by_cases c3 : y = m
      · rw [if_pos ⟨c2, by rw [c3]⟩]
        repeat(first|refine QV QP ?_|refine QZ ?_|refine qcT rfl ?_|refine qcF rfl ?_|refine qs rfl rfl rfl rfl rfl rfl ?_|((try refine qg rfl rfl rfl ?_);first|refine QV QP ?_|refine QV (rr_load1 TyC.ty rfl (at_blk (i := 0) rfl rfl)) ?_|refine QV QA ?_|refine QV (rr_nilc rfl) ?_|refine QV QeT ?_|refine QV QeF ?_|refine QV QaA ?_))
        refine T_ord ([blkO g5 (symC (q, m)).toArray 71]) (.calm 0 (.calm 1 (.calm 2 (.calm 3 (.calm 4 (.calm 5 (.calm 6 (.calm 7 (.calm 8 (.calm 9 (.calm 10 (.calm 11 (.calm 12 (.calm 13 (.calm 14 (.calm 15 (.done))))))))))))))))) (fun _ h => h) (by kernel_rfl) (by kernel_rfl) (by intro c a d v w h; cases d <;> exact h) ?_
        repeat(first|((first|refine TW_plain rfl rfl ?_|refine TW_gmet rfl rfl rfl rfl ?_);first|refine QW QP ?_|refine QW (rr_load1 TyC.ty rfl (at_blk (i := 0) rfl rfl)) ?_|refine QW (rr_load1 TyC.ty rfl (h3 _)) ?_|refine QW (rr_load1 TyC.ty rfl (hat _)) ?_|refine QW QA ?_|refine QW (rr_nilc rfl) ?_|refine QW QeT ?_|refine QW QeF ?_|refine QW QaA ?_|refine QW (rr_idx1 Und.eq TyC.ty rfl rfl hlt) ?_)|refine TW_skip rfl rfl rfl rfl rfl rfl rfl ?_|refine TW_done ?_)
        repeat(first|refine QV QP ?_|refine QZ ?_|refine qcT rfl ?_|refine qcF rfl ?_|refine qs rfl rfl rfl rfl rfl rfl ?_|((try refine qg rfl rfl rfl ?_);first|refine QV QP ?_|refine QV QA ?_|refine QV (rr_nilc rfl) ?_|refine QV QeT ?_|refine QV QeF ?_|refine QV QaA ?_))
        exact E_ret1 rfl rfl fun w hm => hm.ret
      · rw [if_neg (fun h => c3 (by simpa using h.2))]
        repeat(first|refine QV QP ?_|refine QZ ?_|refine qcT rfl ?_|refine qcF rfl ?_|refine qs rfl rfl rfl rfl rfl rfl ?_|((try refine qg rfl rfl rfl ?_);first|refine QV QP ?_|refine QV (rr_load1 TyC.ty rfl (at_blk (i := 0) rfl rfl)) ?_|refine QV QA ?_|refine QV (rr_nilc rfl) ?_|refine QV QeT ?_|refine QV QeF ?_|refine QV QaA ?_))
        refine T_ord ([blkO g5 (symC (q, m)).toArray 71]) (.calm 0 (.calm 1 (.calm 2 (.calm 3 (.calm 4 (.calm 5 (.calm 6 (.calm 7 (.calm 8 (.calm 9 (.calm 10 (.calm 11 (.calm 12 (.calm 13 (.calm 14 (.calm 15 (.done))))))))))))))))) (fun _ h => h) (by kernel_rfl) (by kernel_rfl) (by intro c a d v w h; cases d <;> exact h) ?_
        repeat(first|((first|refine TW_plain rfl rfl ?_|refine TW_gmet rfl rfl rfl rfl ?_);first|refine QW QP ?_|refine QW (rr_load1 TyC.ty rfl (at_blk (i := 0) rfl rfl)) ?_|refine QW (rr_load1 TyC.ty rfl (h3 _)) ?_|refine QW (rr_load1 TyC.ty rfl (hat _)) ?_|refine QW QA ?_|refine QW (rr_nilc rfl) ?_|refine QW QeT ?_|refine QW QeF ?_|refine QW QaA ?_|refine QW (rr_idx1 Und.eq TyC.ty rfl rfl hlt) ?_)|refine TW_skip rfl rfl rfl rfl rfl rfl rfl ?_|refine TW_done ?_)
        repeat(first|refine QV QP ?_|refine QZ ?_|refine qcT rfl ?_|refine qcF rfl ?_|refine qs rfl rfl rfl rfl rfl rfl ?_|((try refine qg rfl rfl rfl ?_);first|refine QV QP ?_|refine QV QA ?_|refine QV (rr_nilc rfl) ?_|refine QV QeT ?_|refine QV QeF ?_|refine QV QaA ?_))
        exact E_ret1 rfl rfl fun w hm => hm.ret
    · rw [if_neg (fun h => c2 h.1)]
      repeat(first|refine QV QP ?_|refine QZ ?_|refine qcT rfl ?_|refine qcF rfl ?_|refine qs rfl rfl rfl rfl rfl rfl ?_|((try refine qg rfl rfl rfl ?_);first|refine QV QP ?_|refine QV (rr_load1 TyC.ty rfl (at_blk (i := 0) rfl rfl)) ?_|refine QV QA ?_|refine QV (rr_nilc rfl) ?_|refine QV QeT ?_|refine QV QeF ?_|refine QV QaA ?_))
      refine T_ord ([blkO g5 (symC (q, m)).toArray 71]) (.calm 0 (.calm 1 (.calm 2 (.calm 3 (.calm 4 (.calm 5 (.calm 6 (.calm 7 (.calm 8 (.calm 9 (.calm 10 (.calm 11 (.calm 12 (.calm 13 (.calm 14 (.calm 15 (.done))))))))))))))))) (fun _ h => h) (by kernel_rfl) (by kernel_rfl) (by intro c a d v w h; cases d <;> exact h) ?_
      repeat(first|((first|refine TW_plain rfl rfl ?_|refine TW_gmet rfl rfl rfl rfl ?_);first|refine QW QP ?_|refine QW (rr_load1 TyC.ty rfl (at_blk (i := 0) rfl rfl)) ?_|refine QW QA ?_|refine QW (rr_nilc rfl) ?_|refine QW QeT ?_|refine QW QeF ?_|refine QW QaA ?_)|refine TW_skip rfl rfl rfl rfl rfl rfl rfl ?_|refine TW_done ?_)
      repeat(first|refine QV QP ?_|refine QZ ?_|refine qcT rfl ?_|refine qcF rfl ?_|refine qs rfl rfl rfl rfl rfl rfl ?_|((try refine qg rfl rfl rfl ?_);first|refine QV QP ?_|refine QV QA ?_|refine QV (rr_nilc rfl) ?_|refine QV QeT ?_|refine QV QeF ?_|refine QV QaA ?_))
      exact E_ret1 rfl rfl fun w hm => hm.ret
end Go.Proofs.Ytlojfbnimmdehaa.eng

/- CountB -/
namespace Go.Proofs.Ytlojfbnimmdehaa.eng
open Go.RowKit kit mix gramL countL
def natV (n : Nat) : Value := .int .i64 (n : Int)
def rowT (g len : Nat) (f : Nat → Nat) : Own := rowO 3 1 (.slice (some ⟨g, 0, none⟩) len len) len ((tab len f).map natV)
theorem at_tab {W : Base} {L : List Own} {i g len k : Nat} {f : Nat → Nat} (hi : L[i]? = some (rowT g len f)) (hk : k < len) : At W L ⟨g, 0 + k, none⟩ (natV (f k)) := at_row hi (by rw [Nat.zero_add, List.getElem?_map, tab_get f hk]; rfl)
theorem rowT_set {g len k v : Nat} {f f' : Nat → Nat} (h : ∀ i, i < len → f' i = if i = k then v else f i) : rowO 3 1 (.slice (some ⟨g, 0, none⟩) len len) len (((tab len f).map natV).set k (natV v)) = rowT g len f' := by
  unfold rowT
  rw [← List.map_set, tab_set f f' k v h]
theorem tab_const (len : Nat) : (tab len fun _ => 0).map natV = List.replicate len (.int .i64 0) := by
  unfold tab
  rw [List.map_map]
  apply List.ext_getElem?
  intro i
  by_cases h : i < len <;> simp [h, natV]
theorem TL_storeT {P : Program} {n : Nat} {W : Base} {fr : Fr} {L : List Own} {Q : Exit → Act → World → Prop} {ops : Array Oper} {rest : List Oper} {ty : TypeId} {pos : String} {after : Array Edge} {t : TypeId} {p x : Operand} {i g off len v : Nat} {f : Nat → Nat} (f' : Nat → Nat) (hT : Ty P t false 1) (hi : L[i]? = some (rowT g len f)) (hp : ev fr p = some (.pointer (some ⟨g, 0 + off, none⟩))) (hx : ev fr x = some (natV v)) (hk : off < len) (hf : ∀ i, i < len → f' i = if i = off then v else f i)
    (h : TL P n W ops Q rest fr (L.set i (rowT g len f'))) : TL P n W ops Q (⟨none, .store t p x, ty, pos, after, none⟩ :: rest) fr L :=
  TL_storeRow hT hi hp hx rfl rfl rfl (by rw [List.length_map, tab_len, Nat.zero_add]; exact hk) (by rw [Nat.zero_add, rowT_set hf]; exact h)
theorem atMostN_calls (m : Nat) (w : World) : Calls Try.prog 128 #[.int .i64 (m : Int)] w (Meets (ret (natV (min m 2))) w) := by
  have h := atMost_calls (m : Int) w
  rw [show min (m : Int) 2 = ((min m 2 : Nat) : Int) by omega] at h
  exact h
set_option maxHeartbeats 4000000 in
theorem row_calls (gc gm : Nat) (t n : Int) (vp vw vb : Value) (word : List Int) (c : Chart) (B : Nat) (body : List Sym) (a b : Nat) (w : World) (h : ChR w gc gm t n vp vw word c B) (hs : Sl w vb body.length (body.flatMap symC)) (hok : ∀ x ∈ body, kit.okI64 x.2) (hc : ∀ x, c x ≤ 2) (hab : a ≤ b) (hb : b ≤ word.length) (hw : word.length ≤ 20) :
    Calls Try.prog 126 #[.pointer (some ⟨gc, 0, none⟩), vb, .int .i64 (a : Int), .int .i64 (b : Int)] w (Meets (ret (.int .i64 (rowF (oneF c word) body a b : Nat))) w) := by
  have hone := fun x a' b' w' (hg : Gr w w') => one_calls gc gm t n vp vw word c B x a' b' w' (h.gr hg)
  obtain ⟨bb, cb, rfl, h4, h5, h6⟩ := hs
  unfold maxLen at h5
  obtain ⟨d, rfl⟩ : ∃ d, b = a + d := ⟨b - a, by omega⟩
  have ho := oneF_le hc word
  unfold rowF
  rw [show a + d - a = d by omega]
  generalize oneF c word = o at *
  refine enter (args := [.pointer (some ⟨gc, 0, none⟩), .slice bb body.length cb, .int .i64 (a : Int), .int .i64 ((a + d : Nat) : Int)]) (n := 79) Try.func126 rfl rfl rfl ?_
  repeat(first|refine QV QP ?_|refine QZ ?_|refine qcT rfl ?_|refine qcF rfl ?_|refine E_blockX ?_|refine E_blockO rfl ?_|refine qs rfl rfl rfl rfl rfl rfl ?_|((try refine qg rfl rfl rfl ?_);first|refine QV QP ?_|refine QV (rr_sub64 (r := (d : Int)) rfl rfl (by omega) (by omega) (by omega)) ?_|refine QV (rr_add64 (r := ((d + 1 : Nat) : Int)) rfl rfl (by omega) (by omega) (by omega)) ?_|refine QV QL ?_|refine QV QlT ?_|refine QV QlF ?_|refine QV QaA ?_|refine QV QaS ?_|refine QV QaM ?_|refine QV QgT ?_|refine QV QgF ?_))
  refine TL_makeRow rfl rfl (by omega) (by omega) rfl fun g0 => ?_
  rw [← tab_const]
  repeat(first|refine QV QP ?_|refine QZ ?_|refine qcT rfl ?_|refine qcF rfl ?_|refine E_blockX ?_|refine E_blockO rfl ?_|refine qs rfl rfl rfl rfl rfl rfl ?_|((try refine qg rfl rfl rfl ?_);first|refine QV QP ?_|refine QV (rr_idx1 (j := 0) Und.eq TyC.ty rfl rfl (by omega)) ?_|refine QV QL ?_|refine QV QlT ?_|refine QV QlF ?_|refine QV QaA ?_|refine QV QaS ?_|refine QV QaM ?_|refine QV QgT ?_|refine QV QgF ?_))
  refine TL_storeT (i := 0) (len := d + 1) (f := fun _ => 0) (v := 1) ways0 TyC.ty rfl rfl rfl (by omega) (fun i _ => rfl) ?_
  conv=>arg 8;simp only[zA,zB,zC,zD,zE,zF,zG,zH,zI,rowS,ret,id_eq]
  repeat(first|refine QV QP ?_|refine QZ ?_|refine qcT rfl ?_|refine qcF rfl ?_|refine E_blockX ?_|refine E_blockO rfl ?_|refine qs rfl rfl rfl rfl rfl rfl ?_|((try refine qg rfl rfl rfl ?_);first|refine QV QP ?_|refine QV QL ?_|refine QV QlT ?_|refine QV QlF ?_|refine QV QaA ?_|refine QV QaS ?_|refine QV QaM ?_|refine QV QgT ?_|refine QV QgF ?_))
  refine T_loop (ι := Nat × Nat × (Nat → Nat)) (fun (k, g, f) => k ≤ body.length ∧ (∀ b, f b ≤ 2) ∧ waysF o a (body.drop k) f d = waysF o a body ways0 d) (fun (k, g, f) => [(0, .pointer (some ⟨gc, 0, none⟩)), (2, .int .i64 (a : Int)), (3, .int .i64 ((a + d : Nat) : Int)), (9, .slice (some ⟨g, 0, none⟩) (d + 1) (d + 1)), (23, .slice bb body.length cb), (24, .int .i64 body.length), (25, .int .i64 (k : Int))])
    (fun (k, g, f) => [rowT g (d + 1) f]) (fun (k, _, _) => body.length - k) (0, g0, ways0) ⟨Nat.zero_le _, ways0_le, rfl⟩ (by repeat' (first | exact True.intro | refine And.intro rfl ?_)) rfl ?_
  rintro ⟨k, g, f⟩ ⟨i1, i2, i3⟩
  dsimp only at i1 i2 i3 ⊢
  rw [← i3]
  clear i3
  by_cases c6 : k < body.length
  · obtain ⟨b', off, rfl, hr⟩ := h6 (by omega)
    have hat := fun L => at_el (L := L) SymS_len hr c6
    have hokx := hok body[k] (List.getElem_mem c6)
    rw [List.drop_eq_getElem_cons c6, waysF]
    clear hr h6
    have hox := ho body[k]
    have hone := fun a' b' w' hg => hone body[k] a' b' w' hg hokx
    generalize body[k] = x at *
    obtain ⟨q, m⟩ := x
    repeat(first|refine QV QP ?_|refine QZ ?_|refine qcT rfl ?_|refine qcF rfl ?_|refine E_blockX ?_|refine E_blockO rfl ?_|refine qs rfl rfl rfl rfl rfl rfl ?_|((try refine qg rfl rfl rfl ?_);first|refine QV QP ?_|refine QV (rr_idxc Und.eq TyC.ty rfl rfl c6) ?_|refine QV (rr_loadN TyC.ty rfl rfl (hat _)) ?_|refine QV QL ?_|refine QV QlT ?_|refine QV QlF ?_|refine QV QaA ?_|refine QV QaS ?_|refine QV QaM ?_|refine QV QgT ?_|refine QV QgF ?_))
    refine TL_new rfl fun g11 => ?_
    refine TL_storeB (i := 1) rfl rfl rfl rfl rfl rfl ?_
    conv=>arg 8;simp only[zA,zB,zC,zD,zE,zF,zG,zH,zI,rowS,ret,id_eq]
    repeat(first|refine QV QP ?_|refine QZ ?_|refine qcT rfl ?_|refine qcF rfl ?_|refine E_blockX ?_|refine E_blockO rfl ?_|refine qs rfl rfl rfl rfl rfl rfl ?_|((try refine qg rfl rfl rfl ?_);first|refine QV QP ?_|refine QV QL ?_|refine QV QlT ?_|refine QV QlF ?_|refine QV QaA ?_|refine QV QaS ?_|refine QV QaM ?_|refine QV QgT ?_|refine QV QgF ?_))
    refine TL_makeRow rfl rfl (by omega) (by omega) rfl fun g12 => ?_
    rw [← tab_const]
    conv=>arg 8;simp only[zA,zB,zC,zD,zE,zF,zG,zH,zI,rowS,ret,id_eq]
    repeat(first|refine QV QP ?_|refine QZ ?_|refine qcT rfl ?_|refine qcF rfl ?_|refine E_blockX ?_|refine E_blockO rfl ?_|refine qs rfl rfl rfl rfl rfl rfl ?_|((try refine qg rfl rfl rfl ?_);first|refine QV QP ?_|refine QV QL ?_|refine QV QlT ?_|refine QV QlF ?_|refine QV QaA ?_|refine QV QaS ?_|refine QV QaM ?_|refine QV QgT ?_|refine QV QgF ?_))
    generalize hO : (fun i j => o (q, m) (a + i) (a + j)) = O
    refine T_loop (ι := Nat) (fun i => i ≤ d + 1) (fun i => [(0, .pointer (some ⟨gc, 0, none⟩)), (2, .int .i64 (a : Int)), (3, .int .i64 ((a + d : Nat) : Int)), (9, .slice (some ⟨g, 0, none⟩) (d + 1) (d + 1)), (11, .pointer (some ⟨g11, 0, none⟩)), (12, .slice (some ⟨g12, 0, none⟩) (d + 1) (d + 1)), (23, .slice (some ⟨b', off, none⟩) body.length cb), (24, .int .i64 body.length), (25, .int .i64 (k : Int)), (32, .slice (some ⟨g, 0, none⟩) (d + 1) (d + 1)), (33, .int .i64 ((d + 1 : Nat) : Int)), (34, .int .i64 (i : Int))])
      (fun i => [rowT g (d + 1) f, blkO g11 (symC (q, m)).toArray 71, rowT g12 (d + 1) (partF O f i)]) (fun i => d + 1 - i) 0 (Nat.zero_le _) (by repeat' (first | exact True.intro | refine And.intro rfl ?_)) (by rw [show partF O f 0 = fun _ => 0 from funext (partF_0 O f)]; rfl) ?_
    intro i j1
    by_cases c7 : i < d + 1
    · have hfi := i2 i
      repeat(first|refine QV QP ?_|refine QZ ?_|refine qcT rfl ?_|refine qcF rfl ?_|refine E_blockX ?_|refine E_blockO rfl ?_|refine qs rfl rfl rfl rfl rfl rfl ?_|((try refine qg rfl rfl rfl ?_);first|refine QV QP ?_|refine QV (rr_idx1 Und.eq TyC.ty rfl rfl c7) ?_|refine QV (rr_load1 TyC.ty rfl (at_tab (i := 0) rfl c7)) ?_|refine QV QL ?_|refine QV QlT ?_|refine QV QlF ?_|refine QV QaA ?_|refine QV QaS ?_|refine QV QaM ?_|refine QV QgT ?_|refine QV QgF ?_))
      refine T_loop (ι := Nat) (fun b => i ≤ b ∧ b ≤ d + 1) (fun b => [(0, .pointer (some ⟨gc, 0, none⟩)), (2, .int .i64 (a : Int)), (3, .int .i64 ((a + d : Nat) : Int)), (9, .slice (some ⟨g, 0, none⟩) (d + 1) (d + 1)), (11, .pointer (some ⟨g11, 0, none⟩)), (12, .slice (some ⟨g12, 0, none⟩) (d + 1) (d + 1)), (13, .int .i64 (i : Int)), (14, natV (f i)), (15, .int .i64 (b : Int)), (23, .slice (some ⟨b', off, none⟩) body.length cb), (24, .int .i64 body.length), (25, .int .i64 (k : Int)), (32, .slice (some ⟨g, 0, none⟩) (d + 1) (d + 1)), (33, .int .i64 ((d + 1 : Nat) : Int)), (34, .int .i64 (i : Int))])
        (fun b => [rowT g (d + 1) f, blkO g11 (symC (q, m)).toArray 71, rowT g12 (d + 1) (mixF O f i b)]) (fun b => d + 1 - b) i ⟨Nat.le_refl _, by omega⟩ (by repeat' (first | exact True.intro | refine And.intro rfl ?_)) (by rw [mixF_0]) ?_
      rintro b ⟨b1, b2⟩
      by_cases c8 : f i = 0
      · rw [mixF_none O f c8]
        rw [c8] at *
        by_cases c9 : b < d + 1
        · repeat(first|refine QV QP ?_|refine QZ ?_|refine qcT rfl ?_|refine qcF rfl ?_|refine E_blockX ?_|refine E_blockO rfl ?_|refine qs rfl rfl rfl rfl rfl rfl ?_|((try refine qg rfl rfl rfl ?_);first|refine QV QP ?_|refine QV QL ?_|refine QV QlT ?_|refine QV QlF ?_|refine QV QaA ?_|refine QV QaS ?_|refine QV QaM ?_|refine QV QgT ?_|refine QV QgF ?_))
          exact E_round (i + 1) (by omega) (by show d + 1 - (i + 1) < d + 1 - i; omega) (by repeat' (first | exact True.intro | refine And.intro rfl ?_)) rfl
        · repeat(first|refine QV QP ?_|refine QZ ?_|refine qcT rfl ?_|refine qcF rfl ?_|refine E_blockX ?_|refine E_blockO rfl ?_|refine qs rfl rfl rfl rfl rfl rfl ?_|((try refine qg rfl rfl rfl ?_);first|refine QV QP ?_|refine QV QL ?_|refine QV QlT ?_|refine QV QlF ?_|refine QV QaA ?_|refine QV QaS ?_|refine QV QaM ?_|refine QV QgT ?_|refine QV QgF ?_))
          exact E_round (i + 1) (by omega) (by show d + 1 - (i + 1) < d + 1 - i; omega) (by repeat' (first | exact True.intro | refine And.intro rfl ?_)) rfl
      by_cases c9 : b < d + 1
      · have hp := partF_le O f i b
        have hst := partF_step O f b1
        have hld : ∀ L : List Own, L[2]? = some (rowT g12 (d + 1) (mixF O f i b)) → At w L ⟨g12, 0 + b, none⟩ (natV (partF O f i b)) := fun L h => by rw [← mixF_at O f i b]; exact at_tab h c9
        have hsf := mixF_step O f i b
        have hone := fun w' hg => hone (a + i) (a + b) w' hg (by omega) (by omega) hw
        have hob := hox (a + i) (a + b)
        have he : o (q, m) (a + i) (a + b) = O i b := by rw [← hO]
        rw [he] at hone hob
        have hm : ((f i : Nat) : Int) * ((O i b : Nat) : Int) = ((f i * O i b : Nat) : Int) := by simp
        have hmb : f i * O i b ≤ 4 := Nat.mul_le_mul hfi hob
        have hc8 : 0 < f i := by omega
        generalize f i = fi at *
        generalize O i b = oo at *
        generalize fi * oo = pr at *
        rw [hst] at hsf
        clear hst
        generalize partF O f i b = p at *
        repeat(first|refine QV QP ?_|refine QZ ?_|refine qcT rfl ?_|refine qcF rfl ?_|refine E_blockX ?_|refine E_blockO rfl ?_|refine qs rfl rfl rfl rfl rfl rfl ?_|((try refine qg rfl rfl rfl ?_);first|refine QV QP ?_|refine QV QL ?_|refine QV QlT ?_|refine QV QlF ?_|refine QV QaA ?_|refine QV QaS ?_|refine QV QaM ?_|refine QV QgT ?_|refine QV QgF ?_))
        refine T_ord ([blkO g11 (symC (q, m)).toArray 71]) (.calm 0 (.calm 1 (.calm 2 (.calm 3 (.calm 4 (.calm 6 (.calm 7 (.calm 8 (.calm 9 (.calm 10 (.calm 11 (.calm 12 (.calm 13 (.calm 14 (.calm 15 (.calm 16 (.one 5 (.calm 17 (.calm 18 (.calm 19 (.one 20 (.done)))))))))))))))))))))) (sub_pick [1] (by decide) rfl) (by kernel_rfl) (by kernel_rfl) (by intro c a d v w h; cases d <;> exact h) ?_
        repeat(first|((first|refine TW_plain rfl rfl ?_|refine TW_gmet rfl rfl rfl rfl ?_);first|refine QW QP ?_|refine QW (rr_idx1 Und.eq TyC.ty rfl rfl c9) ?_|refine QW (rr_loadB (i := 0) TyC.ty rfl rfl rfl) ?_|refine QW (rr_add64 (r := ((a + i : Nat) : Int)) rfl rfl (by omega) (by omega) (by omega)) ?_|refine QW (rr_add64 (r := ((a + b : Nat) : Int)) rfl rfl (by omega) (by omega) (by omega)) ?_|refine QW QL ?_|refine QW QlT ?_|refine QW QlF ?_|refine QW QaA ?_|refine QW QaS ?_|refine QW QaM ?_|refine QW QgT ?_|refine QW QgF ?_)|refine TW_skip rfl rfl rfl rfl rfl rfl rfl ?_|refine TW_done ?_)
        refine TW_call rfl (he4 EntersC.en rfl rfl rfl rfl rfl) (fun w hm => hone _ hm.below) rfl rfl rfl ?_
        repeat(first|((first|refine TW_plain rfl rfl ?_|refine TW_gmet rfl rfl rfl rfl ?_);first|refine QW QP ?_|refine QW (rr_mul64 (r := (pr : Int)) rfl rfl (by rw [hm]; omega) (by rw [hm]; omega) hm) ?_|refine QW QL ?_|refine QW QlT ?_|refine QW QlF ?_|refine QW QaA ?_|refine QW QaS ?_|refine QW QaM ?_|refine QW QgT ?_|refine QW QgF ?_)|refine TW_skip rfl rfl rfl rfl rfl rfl rfl ?_|refine TW_done ?_)
        refine TW_one rfl (TL_val (rr_load1 TyC.ty rfl (hld _ rfl)) rfl rfl rfl (TW_on (sub_pick [1] (by decide) rfl) ?_))
        repeat(first|((first|refine TW_plain rfl rfl ?_|refine TW_gmet rfl rfl rfl rfl ?_);first|refine QW QP ?_|refine QW (rr_add64 (r := ((p + pr : Nat) : Int)) rfl rfl (by omega) (by omega) (by omega)) ?_|refine QW QL ?_|refine QW QlT ?_|refine QW QlF ?_|refine QW QaA ?_|refine QW QaS ?_|refine QW QaM ?_|refine QW QgT ?_|refine QW QgF ?_)|refine TW_skip rfl rfl rfl rfl rfl rfl rfl ?_|refine TW_done ?_)
        refine TW_call rfl (he1 EntersC.en rfl rfl) (fun w hm => atMostN_calls (p + pr) w) rfl rfl rfl ?_
        repeat(first|((first|refine TW_plain rfl rfl ?_|refine TW_gmet rfl rfl rfl rfl ?_);first|refine QW QP ?_|refine QW (rr_idx1 Und.eq TyC.ty rfl rfl c9) ?_|refine QW QL ?_|refine QW QlT ?_|refine QW QlF ?_|refine QW QaA ?_|refine QW QaS ?_|refine QW QaM ?_|refine QW QgT ?_|refine QW QgF ?_)|refine TW_skip rfl rfl rfl rfl rfl rfl rfl ?_|refine TW_done ?_)
        refine TW_one rfl (TL_storeT (i := 2) (v := min (p + pr) 2) (mixF O f i (b + 1)) TyC.ty rfl rfl rfl c9 (fun j _ => hsf j) ?_)
        conv=>arg 8;simp only[zA,zB,zC,zD,zE,zF,zG,zH,zI,rowS,ret,id_eq]
        refine TW_on (sub_pick [1] (by decide) rfl) ?_
        repeat(first|((first|refine TW_plain rfl rfl ?_|refine TW_gmet rfl rfl rfl rfl ?_);first|refine QW QP ?_|refine QW QL ?_|refine QW QlT ?_|refine QW QlF ?_|refine QW QaA ?_|refine QW QaS ?_|refine QW QaM ?_|refine QW QgT ?_|refine QW QgF ?_)|refine TW_skip rfl rfl rfl rfl rfl rfl rfl ?_|refine TW_done ?_)
        repeat(first|refine QV QP ?_|refine QZ ?_|refine qcT rfl ?_|refine qcF rfl ?_|refine E_blockX ?_|refine E_blockO rfl ?_|refine qs rfl rfl rfl rfl rfl rfl ?_|((try refine qg rfl rfl rfl ?_);first|refine QV QP ?_|refine QV QL ?_|refine QV QlT ?_|refine QV QlF ?_|refine QV QaA ?_|refine QV QaS ?_|refine QV QaM ?_|refine QV QgT ?_|refine QV QgF ?_))
        exact E_round (b + 1) ⟨by omega, by omega⟩ (by show d + 1 - (b + 1) < d + 1 - b; omega) (by repeat' (first | exact True.intro | refine And.intro rfl ?_)) rfl
      · repeat(first|refine QV QP ?_|refine QZ ?_|refine qcT rfl ?_|refine qcF rfl ?_|refine E_blockX ?_|refine E_blockO rfl ?_|refine qs rfl rfl rfl rfl rfl rfl ?_|((try refine qg rfl rfl rfl ?_);first|refine QV QP ?_|refine QV QL ?_|refine QV QlT ?_|refine QV QlF ?_|refine QV QaA ?_|refine QV QaS ?_|refine QV QaM ?_|refine QV QgT ?_|refine QV QgF ?_))
        exact E_round (i + 1) (by omega) (by show d + 1 - (i + 1) < d + 1 - i; omega) (by repeat' (first | exact True.intro | refine And.intro rfl ?_)) (by unfold rowT; rw [mixF_end O f (show d + 1 ≤ b by omega)])
    · repeat(first|refine QV QP ?_|refine QZ ?_|refine qcT rfl ?_|refine qcF rfl ?_|refine E_blockX ?_|refine E_blockO rfl ?_|refine qs rfl rfl rfl rfl rfl rfl ?_|((try refine qg rfl rfl rfl ?_);first|refine QV QP ?_|refine QV QL ?_|refine QV QlT ?_|refine QV QlF ?_|refine QV QaA ?_|refine QV QaS ?_|refine QV QaM ?_|refine QV QgT ?_|refine QV QgF ?_))
      refine E_pick [2] (by decide) rfl ?_
      have e1 : tab (d + 1) (partF O f i) = tab (d + 1) (nextF O f) := tab_congr fun j hj => partF_end O f (by omega)
      exact E_round (k + 1, g12, nextF O f) ⟨by omega, nextF_le O f, rfl⟩ (by show body.length - (k + 1) < body.length - k; omega) (by repeat' (first | exact True.intro | refine And.intro rfl ?_)) (by unfold rowT; rw [e1]; rfl)
  · rw [List.drop_of_length_le (by omega), waysF]
    repeat(first|refine QV QP ?_|refine QZ ?_|refine qcT rfl ?_|refine qcF rfl ?_|refine E_blockX ?_|refine E_blockO rfl ?_|refine qs rfl rfl rfl rfl rfl rfl ?_|((try refine qg rfl rfl rfl ?_);first|refine QV QP ?_|refine QV (rr_sub64 (r := (d : Int)) rfl rfl (by omega) (by omega) (by omega)) ?_|refine QV (rr_idx1 Und.eq TyC.ty rfl rfl (show d < d + 1 by omega)) ?_|refine QV (rr_load1 TyC.ty rfl (at_tab (i := 0) rfl (show d < d + 1 by omega))) ?_|refine QV QL ?_|refine QV QlT ?_|refine QV QlF ?_|refine QV QaA ?_|refine QV QaS ?_|refine QV QaM ?_|refine QV QgT ?_|refine QV QgF ?_))
    exact E_ret1 rfl rfl fun w hm => hm.ret
end Go.Proofs.Ytlojfbnimmdehaa.eng

/- CountC -/
namespace Go.Proofs.Ytlojfbnimmdehaa.eng
open Go.RowKit kit mix gramL countL
/-- what a grammar's productions are like -/
def FineC (n : Nat) (l : List gramL.Prod) : Prop := ∀ p ∈ l, 0 ≤ p.1 ∧ p.1 < (n : Int) ∧ ∀ x ∈ p.2, kit.okI64 x.2
attribute [local irreducible] Instr.build in
set_option maxHeartbeats 8000000 in
theorem roundC_calls (w0 : World) (gc gm n : Nat) (t : Int) (vp vw : Value) (word : List Int) (prods : List gramL.Prod) (c : Chart) (Bd a b : Nat) (hG : SlF prodS (fun k => k < w0.heap.size) w0 vp prods) (hW : Sl w0 vw word.length (word.map (.int .i64))) (hfine : FineC n prods) (hn : n ≤ 20) (hlen : prods.length ≤ 40) (hc : ∀ x, c x ≤ 2) (hab : a ≤ b) (hb : b ≤ word.length) (hw : word.length ≤ 20) (hBd : Bd ≤ 10000000) (w : World) (B : Base) (ho : Old w0 B) (hm : Mem B [blkO gc (chV t (n : Int) vp vw gm) 92, chM gm c Bd] w) :
    Calls Try.prog 110 #[.pointer (some ⟨gc, 0, none⟩), .int .i64 (a : Int), .int .i64 (b : Int)] w (MeetsB ⟨fun (_ : Unit) => True, fun _ => .bool (newB c word prods a b n), fun _ => [blkO gc (chV t (n : Int) vp vw gm) 92, chM gm (roundC c word prods n a b n) (Bd + n)]⟩ B) := by
  have hrow := fun vb body w' L (hm : Mem B L w') h1 h2 hs ok => row_calls gc gm t (n : Int) vp vw vb word c Bd body a b w' ⟨h1, h2, hW.gr (ho.mem hm)⟩ hs ok hc hab hb hw
  obtain ⟨bp, cp, rfl, hcp, hmp, hrp⟩ := hG
  unfold maxLen at hmp
  refine enterB hm (args := [.pointer (some ⟨gc, 0, none⟩), .int .i64 (a : Int), .int .i64 (b : Int)]) (n := 75) Try.func110 rfl rfl rfl ?_
  clear hm
  repeat(first|refine QV QP ?_|refine QZ ?_|refine qcT rfl ?_|refine qcF rfl ?_|refine E_blockX ?_|refine E_blockO rfl ?_|refine QV (rr_load1 TyC.ty rfl (at_blk (i := 0) rfl rfl)) ?_|refine QV QL ?_|refine QV QA ?_|refine QV (rr_nilc rfl) ?_|refine QV QlT ?_|refine QV QlF ?_|refine QV QnT ?_|refine QV QnF ?_|refine QV QaA ?_)
  refine TL_makeRow rfl rfl (by omega) (by omega) rfl fun g7 => ?_
  rw [← tab_const]
  conv=>arg 8;simp only[zA,zB,zC,zD,zE,zF,zG,zH,zI,rowS,ret,id_eq]
  repeat(first|refine QV QP ?_|refine QZ ?_|refine qcT rfl ?_|refine qcF rfl ?_|refine E_blockX ?_|refine E_blockO rfl ?_|refine QV (rr_load1 TyC.ty rfl (at_blk (i := 0) rfl rfl)) ?_|refine QV QL ?_|refine QV QA ?_|refine QV (rr_nilc rfl) ?_|refine QV QlT ?_|refine QV QlF ?_|refine QV QnT ?_|refine QV QnF ?_|refine QV QaA ?_)
  refine T_loop (ι := Nat) (fun k => k ≤ prods.length) (fun k => [(0, .pointer (some ⟨gc, 0, none⟩)), (1, .int .i64 (a : Int)), (2, .int .i64 (b : Int)), (7, .slice (some ⟨g7, 0, none⟩) n n), (24, .slice bp prods.length cp), (25, .int .i64 prods.length), (26, .int .i64 (k : Int))])
    (fun k => [blkO gc (chV t (n : Int) (.slice bp prods.length cp) vw gm) 92, chM gm c Bd, rowT g7 n (nowF (oneF c word) (prods.take k) a b)]) (fun k => prods.length - k) 0 (Nat.zero_le _) (by repeat' (first | exact True.intro | refine And.intro rfl ?_)) (by rw [show nowF (oneF c word) (prods.take 0) a b = fun _ => 0 from funext fun i => by simp [nowF, sumP]]; rfl) ?_
  intro k i1
  by_cases c6 : k < prods.length
  · obtain ⟨b', off, rfl, _, hr⟩ := hrp (by omega)
    obtain ⟨bb, cb, q1, q2, q3⟩ := prod_at hr c6
    have hpk := hfine prods[k] (List.getElem_mem c6)
    have htk : prods.take (k + 1) = prods.take k ++ [prods[k]] := List.take_succ_eq_append_getElem c6
    have hat : ∀ (L : List Own) (j : Nat) (v : Value), ([.int .i64 prods[k].1, .slice bb prods[k].2.length cb] : List Value)[j]? = some v → At B L ⟨b', off + k * 2 + j, none⟩ v := fun L j v hj => at_old0 ho (q1 j v hj)
    have hfl := q3.flat (by decide)
    clear hr hrp q1 hfine q3
    generalize prods[k] = p at *
    obtain ⟨hd, body⟩ := p
    obtain ⟨p1, p2, p3⟩ := hpk
    dsimp only at *
    obtain ⟨h, rfl⟩ : ∃ h : Nat, hd = h := ⟨hd.toNat, by omega⟩
    have hh : h < n := by omega
    have hrow := fun w' L (hm : Mem B L w') h1 h2 => hrow (.slice bb body.length cb) body w' L hm h1 h2 (hfl.gr (ho.mem hm)) p3
    have hsn := fun i => nowF_snoc (oneF c word) a b ((h : Int), body) (prods.take k) (h := h) rfl i
    dsimp only at hsn
    rw [← htk] at hsn
    have hrl := rowF_le (oneF c word) body a b
    have hnl := nowF_le (oneF c word) (prods.take k) a b h
    generalize rowF (oneF c word) body a b = r at *
    have hld : ∀ L : List Own, L[2]? = some (rowT g7 n (nowF (oneF c word) (prods.take k) a b)) → At B L ⟨g7, 0 + h, none⟩ (natV (nowF (oneF c word) (prods.take k) a b h)) := fun L hL => at_tab hL hh
    generalize nowF (oneF c word) (prods.take k) a b h = q at *
    repeat(first|refine QV QP ?_|refine QZ ?_|refine qcT rfl ?_|refine qcF rfl ?_|refine E_blockX ?_|refine E_blockO rfl ?_|refine QV (rr_idxc Und.eq TyC.ty rfl rfl c6) ?_|refine QV (rr_loadN TyC.ty rfl rfl (hat _)) ?_|refine QV QL ?_|refine QV QA ?_|refine QV (rr_nilc rfl) ?_|refine QV QlT ?_|refine QV QlF ?_|refine QV QnT ?_|refine QV QnF ?_|refine QV QaA ?_)
    clear hat
    refine TL_new rfl fun g9 => ?_
    refine TL_storeB (i := 3) rfl rfl rfl rfl rfl rfl ?_
    conv=>arg 8;simp only[zA,zB,zC,zD,zE,zF,zG,zH,zI,rowS,ret,id_eq]
    repeat(first|refine QV QP ?_|refine QZ ?_|refine qcT rfl ?_|refine qcF rfl ?_|refine E_blockX ?_|refine E_blockO rfl ?_|refine QV QL ?_|refine QV QA ?_|refine QV (rr_nilc rfl) ?_|refine QV QlT ?_|refine QV QlF ?_|refine QV QnT ?_|refine QV QnF ?_|refine QV QaA ?_)
    refine T_ord ([blkO gc (chV t (n : Int) (.slice (some ⟨b', off, none⟩) prods.length cp) vw gm) 92, chM gm c Bd, blkO g9 #[.int .i64 (h : Int), .slice bb body.length cb] 68]) (.calm 0 (.calm 1 (.calm 2 (.calm 3 (.calm 4 (.calm 5 (.calm 6 (.calm 8 (.calm 9 (.calm 10 (.calm 11 (.calm 12 (.calm 13 (.one 7 (.calm 14 (.calm 15 (.calm 16 (.one 17 (.done))))))))))))))))))) (sub_pick [0, 1, 3] (by decide) rfl) (by kernel_rfl) (by kernel_rfl) (by intro c a d v w h; cases d <;> exact h) ?_
    repeat(first|((first|refine TW_plain rfl rfl ?_|refine TW_gmet rfl rfl rfl rfl ?_);first|refine QW QP ?_|refine QW (rr_load1 TyC.ty rfl (at_blk (i := 2) rfl rfl)) ?_|refine QW (rr_idx1 Und.eq TyC.ty rfl rfl hh) ?_|refine QW QL ?_|refine QW QA ?_|refine QW (rr_nilc rfl) ?_|refine QW QlT ?_|refine QW QlF ?_|refine QW QnT ?_|refine QW QnF ?_|refine QW QaA ?_)|refine TW_done ?_)
    refine TW_call rfl (he4 EntersC.en rfl rfl rfl rfl rfl) (fun w hm => hrow _ _ hm (hm.get (i := 0) rfl) (hm.get (i := 1) rfl)) rfl rfl rfl ?_
    refine TW_one rfl (TL_val (rr_load1 TyC.ty rfl (hld _ rfl)) rfl rfl rfl (TW_on (sub_pick [0, 1, 3] (by decide) rfl) ?_))
    repeat(first|((first|refine TW_plain rfl rfl ?_|refine TW_gmet rfl rfl rfl rfl ?_);first|refine QW QP ?_|refine QW (rr_add64 (r := ((q + r : Nat) : Int)) rfl rfl (by omega) (by omega) (by omega)) ?_|refine QW QL ?_|refine QW QA ?_|refine QW (rr_nilc rfl) ?_|refine QW QlT ?_|refine QW QlF ?_|refine QW QnT ?_|refine QW QnF ?_|refine QW QaA ?_)|refine TW_done ?_)
    refine TW_call rfl (he1 EntersC.en rfl rfl) (fun w hm => atMostN_calls (q + r) w) rfl rfl rfl ?_
    repeat(first|((first|refine TW_plain rfl rfl ?_|refine TW_gmet rfl rfl rfl rfl ?_);first|refine QW QP ?_|refine QW (rr_idx1 Und.eq TyC.ty rfl rfl hh) ?_|refine QW QL ?_|refine QW QA ?_|refine QW (rr_nilc rfl) ?_|refine QW QlT ?_|refine QW QlF ?_|refine QW QnT ?_|refine QW QnF ?_|refine QW QaA ?_)|refine TW_done ?_)
    refine TW_one rfl (TL_storeT (i := 2) (v := min (q + r) 2) (nowF (oneF c word) (prods.take (k + 1)) a b) TyC.ty rfl rfl rfl hh (fun j _ => hsn j) ?_)
    conv=>arg 8;simp only[zA,zB,zC,zD,zE,zF,zG,zH,zI,rowS,ret,id_eq]
    refine TW_on (sub_pick [0, 1, 3] (by decide) rfl) ?_
    repeat(first|((first|refine TW_plain rfl rfl ?_|refine TW_gmet rfl rfl rfl rfl ?_);first|refine QW QP ?_|refine QW QL ?_|refine QW QA ?_|refine QW (rr_nilc rfl) ?_|refine QW QlT ?_|refine QW QlF ?_|refine QW QnT ?_|refine QW QnF ?_|refine QW QaA ?_)|refine TW_done ?_)
    repeat(first|refine QV QP ?_|refine QZ ?_|refine qcT rfl ?_|refine qcF rfl ?_|refine E_blockX ?_|refine E_blockO rfl ?_|refine QV QL ?_|refine QV QA ?_|refine QV (rr_nilc rfl) ?_|refine QV QlT ?_|refine QV QlF ?_|refine QV QnT ?_|refine QV QnF ?_|refine QV QaA ?_)
    refine E_pick [0, 1, 2] (by decide) rfl ?_
    exact E_round (k + 1) (by omega) (by show prods.length - (k + 1) < prods.length - k; omega) (by repeat' (first | exact True.intro | refine And.intro rfl ?_)) rfl
  · obtain rfl : k = prods.length := by omega
    rw [List.take_length]
    clear hrp hrow i1 c6
    repeat(first|refine QV QP ?_|refine QZ ?_|refine qcT rfl ?_|refine qcF rfl ?_|refine E_blockX ?_|refine E_blockO rfl ?_|refine QV QL ?_|refine QV QA ?_|refine QV (rr_nilc rfl) ?_|refine QV QlT ?_|refine QV QlF ?_|refine QV QnT ?_|refine QV QnF ?_|refine QV QaA ?_)
    refine T_loop (ι := Nat) (fun k => k ≤ n) (fun k => [(0, .pointer (some ⟨gc, 0, none⟩)), (1, .int .i64 (a : Int)), (2, .int .i64 (b : Int)), (10, .bool (newB c word prods a b k)), (48, .slice (some ⟨g7, 0, none⟩) n n), (49, .int .i64 (n : Int)), (50, .int .i64 (k : Int))])
      (fun k => [blkO gc (chV t (n : Int) (.slice bp prods.length cp) vw gm) 92, chM gm (roundC c word prods n a b k) (Bd + k), rowT g7 n (nowF (oneF c word) prods a b)]) (fun k => n - k) 0 (Nat.zero_le _) (by repeat' (first | exact True.intro | refine And.intro rfl ?_)) (by rw [roundC_0]; rfl) ?_
    intro k i1
    by_cases c6 : k < n
    · have hsp : spanK.ok ((k : Int), (a : Int), (b : Int)) := span_ok ⟨by omega, by omega⟩ (by omega) (by omega)
      have hst := roundC_step c word prods (a := a) (b := b) c6
      have hat := roundC_at c word prods n a b k
      have hnew : newB c word prods a b (k + 1) = (newB c word prods a b k || !decide (c ((k : Int), (a : Int), (b : Int)) = nowF (oneF c word) prods a b k)) := rfl
      have hld : ∀ L : List Own, L[2]? = some (rowT g7 n (nowF (oneF c word) prods a b)) → At B L ⟨g7, 0 + k, none⟩ (natV (nowF (oneF c word) prods a b k)) := fun L hL => at_tab hL c6
      generalize nowF (oneF c word) prods a b k = v at *
      generalize hcv : c ((k : Int), (a : Int), (b : Int)) = u at *
      repeat(first|refine QV QP ?_|refine QZ ?_|refine qcT rfl ?_|refine qcF rfl ?_|refine E_blockX ?_|refine E_blockO rfl ?_|refine QV (rr_idx1 Und.eq TyC.ty rfl rfl c6) ?_|refine QV (rr_load1 TyC.ty rfl (hld _ rfl)) ?_|refine QV (rr_build rfl (build_span _ _ _)) ?_|refine QV QL ?_|refine QV QA ?_|refine QV (rr_nilc rfl) ?_|refine QV QlT ?_|refine QV QlF ?_|refine QV QnT ?_|refine QV QnF ?_|refine QV QaA ?_)
      refine TL_new rfl fun g13 => ?_
      refine TL_storeB (i := 3) rfl rfl rfl rfl rfl rfl ?_
      conv=>arg 8;simp only[zA,zB,zC,zD,zE,zF,zG,zH,zI,rowS,ret,id_eq]
      repeat(first|refine QV QP ?_|refine QZ ?_|refine qcT rfl ?_|refine qcF rfl ?_|refine E_blockX ?_|refine E_blockO rfl ?_|refine QV QL ?_|refine QV QA ?_|refine QV (rr_nilc rfl) ?_|refine QV QlT ?_|refine QV QlF ?_|refine QV QnT ?_|refine QV QnF ?_|refine QV QaA ?_)
      by_cases c7 : u = v
      · rw [decide_eq_true c7] at hnew
        have hnew : newB c word prods a b (k + 1) = newB c word prods a b k := by rw [hnew]; simp
        refine T_ord ([blkO gc (chV t (n : Int) (.slice bp prods.length cp) vw gm) 92, chM gm (roundC c word prods n a b k) (Bd + k), rowT g7 n (nowF (oneF c word) prods a b), blkO g13 #[.int .i64 (k : Int), .int .i64 (a : Int), .int .i64 (b : Int)] 96]) (.calm 0 (.calm 1 (.calm 2 (.calm 3 (.calm 4 (.calm 5 (.calm 6 (.calm 7 (.done))))))))) (fun _ h => h) (by kernel_rfl) (by kernel_rfl) (by intro c a d v w h; cases d <;> exact h) ?_
        repeat(first|((first|refine TW_plain rfl rfl ?_|refine TW_gmet rfl rfl rfl rfl ?_);first|refine QW QP ?_|refine QW (rr_load1 TyC.ty rfl (at_blk (i := 0) rfl rfl)) ?_|refine QW (rr_loadB (i := 3) TyC.ty rfl rfl rfl) ?_|refine QW (rr_lookT (x := ((k : Int), (a : Int), (b : Int))) (i := 1) spanK Und.eq zero_int rfl rfl rfl hsp (by rw [hat])) ?_|refine QW QL ?_|refine QW QA ?_|refine QW (rr_nilc rfl) ?_|refine QW QlT ?_|refine QW QlF ?_|refine QW QnT ?_|refine QW QnF ?_|refine QW QaA ?_)|refine TW_done ?_)
        repeat(first|refine QV QP ?_|refine QZ ?_|refine qcT rfl ?_|refine qcF rfl ?_|refine E_blockX ?_|refine E_blockO rfl ?_|refine QV QL ?_|refine QV QA ?_|refine QV (rr_nilc rfl) ?_|refine QV QlT ?_|refine QV QlF ?_|refine QV QnT ?_|refine QV QnF ?_|refine QV QaA ?_)
        refine E_pick [0, 1, 2] (by decide) rfl ?_
        refine E_weak (o := chM gm (roundC c word prods n a b k) (Bd + k)) (chM gm (roundC c word prods n a b (k + 1)) (Bd + (k + 1))) (i := 1) rfl (fun w h => mapT_weak (K := spanK) (by omega) (fun x _ => ?_) w h) (fun q h => h) (fun q h => False.elim h) ?_
        · rw [hst x]
          split
          · rename_i e; rw [e, hat, c7]
          · rfl
        exact E_round (k + 1) (by omega) (by show n - (k + 1) < n - k; omega) ⟨rfl, rfl, rfl, by rw [hnew]; rfl, rfl, rfl, rfl, trivial⟩ rfl
      · rw [decide_eq_false c7] at hnew
        have hnew : newB c word prods a b (k + 1) = true := by rw [hnew]; simp
        refine T_ord ([blkO gc (chV t (n : Int) (.slice bp prods.length cp) vw gm) 92, chM gm (roundC c word prods n a b k) (Bd + k), rowT g7 n (nowF (oneF c word) prods a b), blkO g13 #[.int .i64 (k : Int), .int .i64 (a : Int), .int .i64 (b : Int)] 96]) (.calm 0 (.calm 1 (.calm 2 (.calm 3 (.calm 4 (.calm 5 (.calm 6 (.calm 7 (.done))))))))) (fun _ h => h) (by kernel_rfl) (by kernel_rfl) (by intro c a d v w h; cases d <;> exact h) ?_
        repeat(first|((first|refine TW_plain rfl rfl ?_|refine TW_gmet rfl rfl rfl rfl ?_);first|refine QW QP ?_|refine QW (rr_load1 TyC.ty rfl (at_blk (i := 0) rfl rfl)) ?_|refine QW (rr_loadB (i := 3) TyC.ty rfl rfl rfl) ?_|refine QW (rr_lookT (x := ((k : Int), (a : Int), (b : Int))) (i := 1) spanK Und.eq zero_int rfl rfl rfl hsp (by rw [hat])) ?_|refine QW QL ?_|refine QW QA ?_|refine QW (rr_nilc rfl) ?_|refine QW QlT ?_|refine QW QlF ?_|refine QW QnT ?_|refine QW QnF ?_|refine QW QaA ?_)|refine TW_done ?_)
        repeat(first|refine QV QP ?_|refine QZ ?_|refine qcT rfl ?_|refine qcF rfl ?_|refine E_blockX ?_|refine E_blockO rfl ?_|refine QV QL ?_|refine QV QA ?_|refine QV (rr_nilc rfl) ?_|refine QV QlT ?_|refine QV QlF ?_|refine QV QnT ?_|refine QV QnF ?_|refine QV QaA ?_)
        refine T_ord ([blkO gc (chV t (n : Int) (.slice bp prods.length cp) vw gm) 92, blkO g13 #[.int .i64 (k : Int), .int .i64 (a : Int), .int .i64 (b : Int)] 96]) (.calm 0 (.calm 1 (.calm 2 (.calm 3 (.calm 4 (.calm 5 (.one 6 (.done)))))))) (sub_pick [0, 3] (by decide) rfl) (by kernel_rfl) (by kernel_rfl) (by intro c a d v w h; cases d <;> exact h) ?_
        repeat(first|((first|refine TW_plain rfl rfl ?_|refine TW_gmet rfl rfl rfl rfl ?_);first|refine QW QP ?_|refine QW (rr_load1 TyC.ty rfl (at_blk (i := 0) rfl rfl)) ?_|refine QW (rr_loadB (i := 1) TyC.ty rfl rfl rfl) ?_|refine QW QL ?_|refine QW QA ?_|refine QW (rr_nilc rfl) ?_|refine QW QlT ?_|refine QW QlF ?_|refine QW QnT ?_|refine QW QnF ?_|refine QW QaA ?_)|refine TW_done ?_)
        refine TW_one rfl (TL_mapSetT (x := ((k : Int), (a : Int), (b : Int))) (v := natV v) (i := 1) spanK (fun y => .int .i64 (roundC c word prods n a b (k + 1) y : Int)) Und.eq rfl rfl rfl rfl hsp (by omega) (fun y _ => ?_) ?_)
        · rw [hst y]
          split <;> rfl
        conv=>arg 8;simp only[zA,zB,zC,zD,zE,zF,zG,zH,zI,rowS,ret,id_eq]
        refine TW_on (sub_pick [0, 3] (by decide) rfl) ?_
        repeat(first|((first|refine TW_plain rfl rfl ?_|refine TW_gmet rfl rfl rfl rfl ?_);first|refine QW QP ?_|refine QW QL ?_|refine QW QA ?_|refine QW (rr_nilc rfl) ?_|refine QW QlT ?_|refine QW QlF ?_|refine QW QnT ?_|refine QW QnF ?_|refine QW QaA ?_)|refine TW_done ?_)
        repeat(first|refine QV QP ?_|refine QZ ?_|refine qcT rfl ?_|refine qcF rfl ?_|refine E_blockX ?_|refine E_blockO rfl ?_|refine QV QL ?_|refine QV QA ?_|refine QV (rr_nilc rfl) ?_|refine QV QlT ?_|refine QV QlF ?_|refine QV QnT ?_|refine QV QnF ?_|refine QV QaA ?_)
        refine E_pick [0, 1, 2] (by decide) rfl ?_
        exact E_round (k + 1) (by omega) (by show n - (k + 1) < n - k; omega) ⟨rfl, rfl, rfl, by rw [hnew]; rfl, rfl, rfl, rfl, trivial⟩ rfl
    · obtain rfl : k = n := by omega
      repeat(first|refine QV QP ?_|refine QZ ?_|refine qcT rfl ?_|refine qcF rfl ?_|refine E_blockX ?_|refine E_blockO rfl ?_|refine QV QL ?_|refine QV QA ?_|refine QV (rr_nilc rfl) ?_|refine QV QlT ?_|refine QV QlF ?_|refine QV QnT ?_|refine QV QnF ?_|refine QV QaA ?_)
      exact E_ret1 rfl rfl fun w hm => hm.meetsB (S := ⟨fun (_ : Unit) => True, fun _ => .bool (newB c word prods a b k), fun _ => [blkO gc (chV t (k : Int) (.slice bp prods.length cp) vw gm) 92, chM gm (roundC c word prods k a b k) (Bd + k)]⟩) () trivial [0, 1] (by decide) rfl
end Go.Proofs.Ytlojfbnimmdehaa.eng

/- CountD -/
namespace Go.Proofs.Ytlojfbnimmdehaa.eng
open Go.RowKit kit mix gramL countL
set_option maxHeartbeats 8000000 in
theorem fill_calls (w0 : World) (gc gm n : Nat) (t : Int) (vp vw : Value) (word : List Int) (prods : List gramL.Prod) (hG : SlF prodS (fun k => k < w0.heap.size) w0 vp prods) (hW : Sl w0 vw word.length (word.map (.int .i64))) (hfine : FineC n prods) (hin : NonsIn n prods) (hn : n ≤ 20) (hlen : prods.length ≤ 40) (hw : word.length ≤ 20) (w : World) (B : Base) (ho : Old w0 B) (hm : Mem B [blkO gc (chV t (n : Int) vp vw gm) 92, chM gm (fun _ => 0) 0] w) :
    Calls Try.prog 72 #[.pointer (some ⟨gc, 0, none⟩)] w (MeetsB ⟨fun (x : Chart × Nat) => Lfp word prods n x.1 ∧ x.2 ≤ 1000000, fun _ => .tuple #[], fun x => [blkO gc (chV t (n : Int) vp vw gm) 92, chM gm x.1 x.2]⟩ B) := by
  have hround := fun c Bd a b hc hab hb hBd w' B' ho hm => roundC_calls w0 gc gm n t vp vw word prods c Bd a b hG hW hfine hn hlen hc hab hb hw hBd w' B' ho hm
  obtain ⟨bw, cw, rfl, _⟩ := hW
  refine enterB hm (args := [.pointer (some ⟨gc, 0, none⟩)]) (n := 32) Try.func72 rfl rfl rfl ?_
  clear hm
  repeat(first|refine QV QP ?_|refine QZ ?_|refine qcT rfl ?_|refine qcF rfl ?_|refine E_blockX ?_|refine E_blockO rfl ?_|refine QV QL ?_|refine QV QA ?_|refine QV (rr_nilc rfl) ?_|refine QV QmT ?_|refine QV QmF ?_|refine QV QaA ?_)
  refine T_loop (ι := Nat × Chart × Nat) (fun (s, c, Bd) => s ≤ word.length + 1 ∧ InvC word prods n (fun i j => j - i < s) c ∧ Bd ≤ 1700 * (s * 22)) (fun (s, _, _) => [(0, .pointer (some ⟨gc, 0, none⟩)), (2, .int .i64 (s : Int))])
    (fun (_, c, Bd) => [blkO gc (chV t (n : Int) vp (.slice bw word.length cw) gm) 92, chM gm c Bd]) (fun (s, _, _) => word.length + 1 - s) (0, fun _ => 0, 0) ⟨by omega, inv0, by omega⟩ (by repeat' (first | exact True.intro | refine And.intro rfl ?_)) rfl ?_
  rintro ⟨s, c, Bd⟩ ⟨i1, i2, i3⟩
  dsimp only at i1 i2 i3 ⊢
  by_cases c6 : s ≤ word.length
  · repeat(first|refine QV QP ?_|refine QZ ?_|refine qcT rfl ?_|refine qcF rfl ?_|refine E_blockX ?_|refine E_blockO rfl ?_|refine QV (rr_load1 TyC.ty rfl (at_blk (i := 0) rfl rfl)) ?_|refine QV QL ?_|refine QV QA ?_|refine QV (rr_nilc rfl) ?_|refine QV QmT ?_|refine QV QmF ?_|refine QV QaA ?_)
    refine T_loop (ι := Nat × Chart × Nat) (fun (f, c, Bd) => f + s ≤ word.length + 1 ∧ InvC word prods n (fun i j => j - i < s ∨ (j - i = s ∧ i < f)) c ∧ Bd ≤ 1700 * (s * 22 + f)) (fun (f, _, _) => [(0, .pointer (some ⟨gc, 0, none⟩)), (2, .int .i64 (s : Int)), (3, .int .i64 (f : Int))])
      (fun (_, c, Bd) => [blkO gc (chV t (n : Int) vp (.slice bw word.length cw) gm) 92, chM gm c Bd]) (fun (f, _, _) => word.length + 1 - f) (0, c, Bd) ⟨by omega, i2.same fun i j _ _ => by omega, by omega⟩ (by repeat' (first | exact True.intro | refine And.intro rfl ?_)) rfl ?_
    clear i2 i3
    rintro ⟨f, c, Bd⟩ ⟨j1, i2, i3⟩
    dsimp only at j1 i2 i3 ⊢
    by_cases c7 : f + s ≤ word.length
    · repeat(first|refine QV QP ?_|refine QZ ?_|refine qcT rfl ?_|refine qcF rfl ?_|refine E_blockX ?_|refine E_blockO rfl ?_|refine QV (rr_load1 TyC.ty rfl (at_blk (i := 0) rfl rfl)) ?_|refine QV QL ?_|refine QV QA ?_|refine QV (rr_nilc rfl) ?_|refine QV QmT ?_|refine QV QmF ?_|refine QV QaA ?_)
      refine T_loop (ι := Chart × Nat × Bool) (fun (c, Bd, m) => InvI word prods n (fun i j => j - i < s ∨ (j - i = s ∧ i < f)) f (f + s) c ∧ (m = false → Fix1 word prods n c f (f + s)) ∧ Bd + 20 * (2 * lackC n c f (f + s) + (if m = true then 1 else 0)) ≤ 1700 * (s * 22 + f) + 1620) (fun (_, _, m) => [(0, .pointer (some ⟨gc, 0, none⟩)), (2, .int .i64 (s : Int)), (3, .int .i64 (f : Int)), (4, .bool m)])
        (fun (c, Bd, _) => [blkO gc (chV t (n : Int) vp (.slice bw word.length cw) gm) 92, chM gm c Bd]) (fun (c, _, m) => 2 * lackC n c f (f + s) + (if m = true then 1 else 0)) (c, Bd, true) ⟨i2.begin (by omega) c7 (by omega), fun h => (by cases h), by have := lackC_le n c f (f + s); rw [if_pos rfl]; omega⟩ (by repeat' (first | exact True.intro | refine And.intro rfl ?_)) rfl ?_
      clear i2 i3
      rintro ⟨c, Bd, m⟩ ⟨i2, i3, i4⟩
      dsimp only at i2 i3 i4 ⊢
      cases m
      · have i3 := i3 rfl
        repeat(first|refine QV QP ?_|refine QZ ?_|refine qcT rfl ?_|refine qcF rfl ?_|refine E_blockX ?_|refine E_blockO rfl ?_|refine QV QL ?_|refine QV QA ?_|refine QV (rr_nilc rfl) ?_|refine QV QmT ?_|refine QV QmF ?_|refine QV QaA ?_)
        exact E_round (f + 1, c, Bd) ⟨by omega, i2.done i3 fun i j _ _ => by omega, by rw [if_neg (by decide)] at i4; dsimp only; omega⟩ (by show word.length + 1 - (f + 1) < word.length + 1 - f; omega) (by repeat' (first | exact True.intro | refine And.intro rfl ?_)) rfl
      · have hinv := round_inv hin i2 (by omega) c7 (by intro i j h; omega)
        have hfix := round_fix hin i2 (by omega)
        have hlk := lack_round i2 n (Nat.le_refl _)
        rw [if_pos rfl] at i4
        repeat(first|refine QV QP ?_|refine QZ ?_|refine qcT rfl ?_|refine qcF rfl ?_|refine E_blockX ?_|refine E_blockO rfl ?_|refine QV QL ?_|refine QV QA ?_|refine QV (rr_nilc rfl) ?_|refine QV QmT ?_|refine QV QmF ?_|refine QV QaA ?_)
        refine TL_callB [0, 1] [] (by decide) rfl rfl (he3 EntersC.en rfl rfl rfl rfl) (fun w hm hb => hround c Bd f (f + s) i2.le2 (by omega) c7 (by omega) w _ (ho.on hm (by intro o ho; simpa using ho)) hb) rfl rfl rfl ?_
        intro _ _
        conv=>arg 8;simp only[zA,zB,zC,zD,zE,zF,zG,zH,zI,rowS,ret,id_eq]
        repeat(first|refine QV QP ?_|refine QZ ?_|refine qcT rfl ?_|refine qcF rfl ?_|refine E_blockX ?_|refine E_blockO rfl ?_|refine QV QL ?_|refine QV QA ?_|refine QV (rr_nilc rfl) ?_|refine QV QmT ?_|refine QV QmF ?_|refine QV QaA ?_)
        refine E_round (roundC c word prods n f (f + s) n, Bd + n, newB c word prods f (f + s) n) ⟨hinv, hfix, ?_⟩ ?_ (by repeat' (first | exact True.intro | refine And.intro rfl ?_)) rfl
        · dsimp only
          by_cases c8 : newB c word prods f (f + s) n = true
          · have := hlk.2 c8; rw [if_pos c8]; omega
          · have := hlk.1; rw [if_neg c8]; omega
        · dsimp only
          rw [if_pos rfl]
          by_cases c8 : newB c word prods f (f + s) n = true
          · have := hlk.2 c8; rw [if_pos c8]; omega
          · have := hlk.1; rw [if_neg c8]; omega
    · repeat(first|refine QV QP ?_|refine QZ ?_|refine qcT rfl ?_|refine qcF rfl ?_|refine E_blockX ?_|refine E_blockO rfl ?_|refine QV (rr_load1 TyC.ty rfl (at_blk (i := 0) rfl rfl)) ?_|refine QV QL ?_|refine QV QA ?_|refine QV (rr_nilc rfl) ?_|refine QV QmT ?_|refine QV QmF ?_|refine QV QaA ?_)
      exact E_round (s + 1, c, Bd) ⟨by omega, i2.same fun i j _ _ => by omega, by dsimp only; omega⟩ (by show word.length + 1 - (s + 1) < word.length + 1 - s; omega) (by repeat' (first | exact True.intro | refine And.intro rfl ?_)) rfl
  · repeat(first|refine QV QP ?_|refine QZ ?_|refine qcT rfl ?_|refine qcF rfl ?_|refine E_blockX ?_|refine E_blockO rfl ?_|refine QV (rr_load1 TyC.ty rfl (at_blk (i := 0) rfl rfl)) ?_|refine QV QL ?_|refine QV QA ?_|refine QV (rr_nilc rfl) ?_|refine QV QmT ?_|refine QV QmF ?_|refine QV QaA ?_)
    exact E_end0 rfl fun w hm => hm.meetsB (S := ⟨fun (x : Chart × Nat) => Lfp word prods n x.1 ∧ x.2 ≤ 1000000, fun _ => .tuple #[], fun x => [blkO gc (chV t (n : Int) vp (.slice bw word.length cw) gm) 92, chM gm x.1 x.2]⟩) (c, Bd) ⟨i2.lfp fun i j _ _ => by omega, by dsimp only; omega⟩ [0, 1] (by decide) rfl
theorem build_chart (t n : Int) (b b' : Option Addr) (m c m' c' gm : Nat) (w : World) : (Instr.build 92 #[(0, graV t n (.slice b m c)), (1, .slice b' m' c'), (2, .map (some gm))]).run Try.prog w = .ok (.agg (chV t n (.slice b m c) (.slice b' m' c') gm)) w := by
  unfold graV chV
  go_simp
def filledS (g : Gram) (word : List Int) (vp vw : Value) : Spec (Nat × Nat × Chart × Nat) := ⟨fun x => Lfp word g.prods g.nons.toNat x.2.2.1 ∧ x.2.2.2 ≤ 1000000, fun x => .pointer (some ⟨x.1, 0, none⟩), fun x => [blkO x.1 (chV g.terms g.nons vp vw x.2.1) 92, chM x.2.1 x.2.2.1 x.2.2.2]⟩
theorem fineC_of {g : Gram} {n : Nat} (h : checkG g = 0) (hn : g.nons = n) : FineC n g.prods ∧ NonsIn n g.prods := by
  obtain ⟨a1, a2, a3, a4, a5, a6⟩ := checkG_ok h
  refine ⟨fun p hp => ?_, fun p hp x hx h2 => ?_⟩
  · obtain ⟨b1, b2, b3, b4⟩ := a6 p hp
    refine ⟨b2, by omega, fun x hx => ?_⟩
    have := b4 x hx
    unfold right at this
    split at this
    · simp at this; exact ⟨by omega, by omega⟩
    · split at this
      · simp at this; exact ⟨by omega, by omega⟩
      · simp at this
  · have := (a6 p hp).2.2.2 x hx
    unfold right at this
    rw [if_neg (by omega), if_pos h2] at this
    simp at this; omega
attribute [local irreducible] Instr.build in
set_option maxHeartbeats 2000000 in
theorem filled_calls (vp vw : Value) (g : Gram) (word : List Int) (w : World) (h : GraR (fun k => k < w.heap.size) w (graV g.terms g.nons vp) g) (hs : Sl w vw word.length (word.map (.int .i64))) (hck : checkC g word = 0) :
    Calls Try.prog 39 #[graV g.terms g.nons vp, vw] w (Meets (filledS g word vp vw) w) := by
  obtain ⟨hg, hl, hw⟩ := checkC_ok hck
  obtain ⟨a1, a2, a3, a4, a5, a6⟩ := checkG_ok hg
  obtain ⟨n, hn⟩ : ∃ n : Nat, g.nons = n := ⟨g.nons.toNat, by omega⟩
  obtain ⟨f1, f2⟩ := fineC_of hg hn
  obtain ⟨vp', he, h1, _⟩ := h
  obtain ⟨t, nn, prods⟩ := g
  dsimp only at *
  simp only [graV, Value.agg.injEq, Array.mk.injEq, List.cons.injEq, true_and, and_true] at he
  subst he hn
  have hfill := fun gc gm w' B ho hm => fill_calls w gc gm n t vp vw word prods h1 hs f1 f2 (by omega) a5 hl w' B ho hm
  obtain ⟨bp, cp, rfl, _⟩ := h1
  obtain ⟨bw, cw, rfl, _⟩ := hs
  refine enter (args := [graV t (n : Int) (.slice bp prods.length cp), .slice bw word.length cw]) (n := 14) Try.func39 rfl rfl rfl ?_
  refine T_seq (T_region (TL_box rfl rfl rfl fun g2 => ?_))
  repeat(first|refine QV QP ?_|refine QZ ?_|refine QV (rr_loadB (i := 0) TyC.ty rfl rfl rfl) ?_)
  refine TL_mapT (z := .int .i64 0) spanK rfl fun gm => ?_
  repeat(first|refine QV QP ?_|refine QZ ?_|refine QV (rr_build rfl (build_chart _ _ _ _ _ _ _ _ _)) ?_)
  refine TL_box rfl rfl rfl fun gc => ?_
  conv=>arg 8;simp only[zA,zB,zC,zD,zE,zF,zG,zH,zI,rowS,ret,id_eq]
  repeat(first|refine QV QP ?_|refine QZ ?_)
  refine TL_callB [2, 1] [0] (by decide) rfl rfl (he1 EntersC.en rfl rfl) (fun w' hm hb => hfill gc gm w' _ ((Old.self w).on hm (by intro o ho; simp at ho ⊢; rcases ho with h | h <;> simp [h])) hb) rfl rfl rfl ?_
  rintro ⟨c, Bd⟩ hx
  conv=>arg 8;simp only[zA,zB,zC,zD,zE,zF,zG,zH,zI,rowS,ret,id_eq]
  repeat(first|refine QV QP ?_|refine QZ ?_)
  exact E_ret1 rfl rfl fun w hm => hm.meets (S := filledS ⟨t, n, prods⟩ word (.slice bp prods.length cp) (.slice bw word.length cw)) (gc, gm, c, Bd) hx [1, 2] (by decide) rfl
end Go.Proofs.Ytlojfbnimmdehaa.eng

/- LlM -/
namespace Go.Proofs.Ytlojfbnimmdehaa.eng
open Go.RowKit kit mix gramL treeL countL factsL derL llL
abbrev vals (v : Value) : Value := v
def mayG (n : Nat) (l : List gramL.Prod) (i : Nat) : Nat := beginF (ofS n l).E (ofF n l) (prodAt l (i : Int)).2 ((ofW n l).getD (prodAt l (i : Int)).1.toNat 0)
section
end
end Go.Proofs.Ytlojfbnimmdehaa.eng

/- LrA -/
namespace Go.Proofs.Ytlojfbnimmdehaa.eng
open Go.RowKit kit mix gramL treeL factsL itemL smallL
def actC (x : itemL.Act) : List Value := [.int .i64 x.1, .int .i64 x.2]
theorem actC_len (x : itemL.Act) : (actC x).length = 2 := rfl
/-- acts so far: t terminals, then some items -/
def actsK (l : List gramL.Prod) (T : Nat) (nx : List Int) (t : Nat) (s : List itemL.Item) (c : Nat) : List itemL.Act := (if c < t ∧ 0 ≤ nx.getD c 0 then [(1, nx.getD c 0)] else []) ++ s.filterMap (actOf l c)
theorem actsK_all {l : List gramL.Prod} {T : Nat} {nx : List Int} {s : List itemL.Item} {c : Nat} : actsK l T nx T s c = actsI l T s nx c := rfl
def actF (vs : Nat → Value) (A : Nat → List itemL.Act) (j : Nat) : Own := rowO 87 2 (vs j) (A j).length ((A j).flatMap actC)
def actsS (T : Nat) (A : Nat → List itemL.Act) : Spec (Nat × (Nat → Value)) := ⟨fun _ => True, fun x => .slice (some ⟨x.1, 0, none⟩) (T + 1) (T + 1), fun x => [rowA 86 vals x.1 (T + 1) x.2, famP (fun j => j < T + 1) (actF x.2 A)]⟩
theorem build_act1 (n : Int) (w : World) : (Instr.build 87 #[(0, .int .i64 1), (1, .int .i64 n)]).run Try.prog w = .ok (.agg (actC (1, n)).toArray) w := by kernel_rfl
theorem build_act2 (n : Int) (w : World) : (Instr.build 87 #[(0, .int .i64 2), (1, .int .i64 n)]).run Try.prog w = .ok (.agg (actC (2, n)).toArray) w := by kernel_rfl
theorem build_act3 (w : World) : (Instr.build 87 #[(0, .int .i64 3)]).run Try.prog w = .ok (.agg (actC (3, 0)).toArray) w := by kernel_rfl
theorem actsK_len {l : List gramL.Prod} {T : Nat} {nx : List Int} {t : Nat} {s : List itemL.Item} {c : Nat} : (actsK l T nx t s c).length ≤ 1 + s.length := by
  unfold actsK
  rw [List.length_append]
  have := List.length_filterMap_le (actOf l c) s
  split
  · rw [List.length_singleton]; omega
  · rw [List.length_nil]; omega
set_option maxHeartbeats 8000000 in
theorem lrActs_calls (v : Value) (g : Gram) (T : Nat) (hTt : g.terms = (T : Int)) (hT : T ≤ 30) (bS oS lS cS bN oN lN cN n : Nat) (vs1 vn1 : Value) (s : List itemL.Item) (nx : List Int) (w : World) (hG : GraR (fun k => k < w.heap.size) w v g) (hpl : g.prods.length ≤ 40) (hnS : n < lS) (hcS : w.cell? ⟨bS, oS + n, none⟩ = some vs1) (hs1 : Sl w vs1 s.length (s.flatMap itC)) (hnN : n < lN) (hcN : w.cell? ⟨bN, oN + n, none⟩ = some vn1) (hn1 : Sl w vn1 nx.length (nx.map (Value.int .i64))) (hnl : T ≤ nx.length) (hr : ∀ it ∈ s, RightI g.prods T it) (hsl : s.length ≤ 20000) (hn0 : n ≤ 1000000) :
    Calls Try.prog 44 #[v, .agg #[.slice (some ⟨bS, oS, none⟩) lS cS, .slice (some ⟨bN, oN, none⟩) lN cN], .int .i64 (n : Int)] w (Meets (actsS T (actsI g.prods T s nx)) w) := by
  obtain ⟨vp, rfl, hp, -, -⟩ := hG
  obtain ⟨bp, cp, rfl, hcp, hmp, hrp⟩ := hp
  obtain ⟨bs, cs, rfl, -, hmS, hrS⟩ := hs1
  obtain ⟨bn, cn, rfl, -, hmN, hrN⟩ := hn1
  unfold maxLen at hmS hmN
  rw [hTt]
  have hb1 := build_act1
  have hb2 := build_act2
  have hb3 := build_act3
  refine enter (args := [graV (T : Int) g.nons (.slice bp g.prods.length cp), .agg #[.slice (some ⟨bS, oS, none⟩) lS cS, .slice (some ⟨bN, oN, none⟩) lN cN], .int .i64 (n : Int)]) (n := 113) Try.func44 rfl rfl rfl ?_
  refine T_seq (T_region (TL_box rfl rfl rfl fun g3 => ?_))
  conv=>arg 8;simp only[zA,zB,zC,zD,zE,zF,zG,zH,zI,rowS,ret,id_eq]
  refine TL_box rfl rfl rfl fun g4 => ?_
  conv=>arg 8;simp only[zA,zB,zC,zD,zE,zF,zG,zH,zI,rowS,ret,id_eq]
  repeat(first|refine QV QP ?_|refine QZ ?_|refine qcT rfl ?_|refine qcF rfl ?_|refine E_blockX ?_|refine E_blockO rfl ?_|refine qs rfl rfl rfl rfl rfl rfl ?_|((try refine qg rfl rfl rfl ?_);first|refine QV QP ?_|refine QV (rr_load1 (v := .int .i64 (T : Int)) TyC.ty rfl (at_blk (i := 0) rfl rfl)) ?_|refine QV (rr_add64 (r := ((T + 1 : Nat) : Int)) rfl rfl (by omega) (by omega) (by omega)) ?_|refine QV QL ?_|refine QV QA ?_|refine QV QlT ?_|refine QV QlF ?_|refine QV QhT ?_|refine QV QhF ?_|refine QV QeT ?_|refine QV QeF ?_|refine QV QaA ?_))
  refine TL_makeA (m := T + 1) vals (.slice none 0 0) rfl rfl (by omega) (by omega) rfl fun g7 => ?_
  conv=>arg 8;simp only[zA,zB,zC,zD,zE,zF,zG,zH,zI,rowS,ret,id_eq]
  repeat(first|refine QV QP ?_|refine QZ ?_|refine qcT rfl ?_|refine qcF rfl ?_|refine E_blockX ?_|refine E_blockO rfl ?_|refine qs rfl rfl rfl rfl rfl rfl ?_|((try refine qg rfl rfl rfl ?_);first|refine QV QP ?_|refine QV (rr_load1 (v := .int .i64 (T : Int)) TyC.ty rfl (at_blk (i := 0) rfl rfl)) ?_|refine QV QL ?_|refine QV QA ?_|refine QV QlT ?_|refine QV QlF ?_|refine QV QhT ?_|refine QV QhF ?_|refine QV QeT ?_|refine QV QeF ?_|refine QV QaA ?_))
  refine T_extra (famP (fun j => j < T + 1) (actF (fun _ => .slice none 0 0) (actsK g.prods T nx 0 []))) (fun k hk => hk.elim (fun h => by cases h) fun ⟨i, hi, h⟩ => h.elim (fun h => by cases h) id) (fun w => ⟨fun i hi => ?_, fun i j _ _ _ k h => h.elim (fun h => by cases h) False.elim⟩) ?_
  · unfold actF actsK
    rw [if_neg (by omega)]
    exact World.ownsRow_nil _ _ _ _
  conv => arg 7; simp only [zA, zB, zC, zD, zE, zF, zG, zH, zI, rowS, ret, id_eq]
  refine T_loop (ι := Nat × (Nat → Value)) (fun (t, _) => t ≤ T) (fun (t, _) => [(2, .int .i64 (n : Int)), (3, .pointer (some ⟨g3, 0, none⟩)), (4, .pointer (some ⟨g4, 0, none⟩)), (7, .slice (some ⟨g7, 0, none⟩) (T + 1) (T + 1)), (17, .int .i64 (T : Int)), (18, .int .i64 (t : Int))])
    (fun (t, vs) => [blkO g3 (graV (T : Int) g.nons (.slice bp g.prods.length cp)).cells 24, blkO g4 (Value.agg #[.slice (some ⟨bS, oS, none⟩) lS cS, .slice (some ⟨bN, oN, none⟩) lN cN]).cells 103, rowA 86 vals g7 (T + 1) vs, famP (fun j => j < T + 1) (actF vs (actsK g.prods T nx t []))]) (fun (t, _) => T - t) (0, fun _ => .slice none 0 0) (Nat.zero_le _) (by repeat' (first | exact True.intro | refine And.intro rfl ?_)) rfl ?_
  rintro ⟨t, vs⟩ i1
  dsimp only at i1 ⊢
  by_cases c1 : t < T
  · obtain ⟨b, off, rfl, hrd⟩ := hrN (by omega)
    have hny : (nx.map (Value.int .i64))[t]? = some (.int .i64 (nx.getD t 0)) := by
      rw [List.getElem?_map, List.getD_eq_getElem?_getD, List.getElem?_eq_getElem (by omega)]; rfl
    have hat := fun (L : List Own) => at_rd (W := w) (L := L) hrd hny
    have htl : t < nx.length := by omega
    have hoth : ∀ j, j ≠ t → actsK g.prods T nx (t + 1) [] j = actsK g.prods T nx t [] j := fun j hj => by
      unfold actsK
      have : (j < t + 1 ∧ 0 ≤ nx.getD j 0) ↔ (j < t ∧ 0 ≤ nx.getD j 0) := by constructor <;> (rintro ⟨h1, h2⟩; exact ⟨by omega, h2⟩)
      simp only [this]
    have hmine : actsK g.prods T nx (t + 1) [] t = if 0 ≤ nx.getD t 0 then [(1, nx.getD t 0)] else [] := by
      unfold actsK
      by_cases c : 0 ≤ nx.getD t 0
      · rw [if_pos ⟨Nat.lt_succ_self t, c⟩, if_pos c]; rfl
      · rw [if_neg (fun h => c h.2), if_neg c]; rfl
    have hmine0 : actsK g.prods T nx t [] t = [] := by unfold actsK; rw [if_neg (fun h => Nat.lt_irrefl t h.1)]; rfl
    generalize nx.getD t 0 = y at *
    repeat(first|refine QV QP ?_|refine QZ ?_|refine qcT rfl ?_|refine qcF rfl ?_|refine E_blockX ?_|refine E_blockO rfl ?_|refine qs rfl rfl rfl rfl rfl rfl ?_|((try refine qg rfl rfl rfl ?_);first|refine QV QP ?_|refine QV (rr_load1 (v := .slice (some ⟨bN, oN, none⟩) lN cN) TyC.ty rfl (at_blk (i := 1) rfl rfl)) ?_|refine QV (rr_idx1 Und.eq TyC.ty rfl rfl hnN) ?_|refine QV (rr_load1 (v := .slice (some ⟨b, off, none⟩) nx.length cn) TyC.ty rfl (at_old hcN)) ?_|refine QV (rr_idx1 Und.eq TyC.ty rfl rfl htl) ?_|refine QV (rr_load1 (v := .int .i64 y) TyC.ty rfl (hat _)) ?_|refine QV QL ?_|refine QV QA ?_|refine QV QlT ?_|refine QV QlF ?_|refine QV QhT ?_|refine QV QhF ?_|refine QV QeT ?_|refine QV QeF ?_|refine QV QaA ?_))
    by_cases c2 : 0 ≤ y
    · rw [if_pos c2] at hmine
      repeat(first|refine QV QP ?_|refine QZ ?_|refine qcT rfl ?_|refine qcF rfl ?_|refine E_blockX ?_|refine E_blockO rfl ?_|refine qs rfl rfl rfl rfl rfl rfl ?_|((try refine qg rfl rfl rfl ?_);first|refine QV QP ?_|refine QV (rr_geq (b := true) rfl rfl (decide_eq_true c2)) ?_|refine QV (rr_idx1 Und.eq TyC.ty rfl rfl (show t < T + 1 by omega)) ?_|refine QV (rr_load1 TyC.ty rfl (at_rowA (i := 2) rfl (show t < T + 1 by omega))) ?_|refine QV (rr_build rfl (hb1 _)) ?_|refine QV QL ?_|refine QV QA ?_|refine QV QlT ?_|refine QV QlF ?_|refine QV QhT ?_|refine QV QhF ?_|refine QV QeT ?_|refine QV QeF ?_|refine QV QaA ?_))
      refine TL_take (q := 3) t rfl (show t < T + 1 by omega) ?_
      have hFt : actF vs (actsK g.prods T nx t []) t = rowO 87 2 (vs t) 0 [] := by unfold actF; rw [hmine0]; rfl
      rw [hFt]
      conv=>arg 8;simp only[zA,zB,zC,zD,zE,zF,zG,zH,zI,rowS,ret,id_eq]
      refine TL_pushN (i := 4) rfl rfl rfl rfl rfl rfl rfl (fun z h => by cases h; rfl) (by omega) (by omega) rfl fun z v3 => ?_
      conv=>arg 8;simp only[zA,zB,zC,zD,zE,zF,zG,zH,zI,rowS,ret,id_eq]
      repeat(first|refine QV QP ?_|refine QZ ?_|refine qcT rfl ?_|refine qcF rfl ?_|refine E_blockX ?_|refine E_blockO rfl ?_|refine qs rfl rfl rfl rfl rfl rfl ?_|((try refine qg rfl rfl rfl ?_);first|refine QV QP ?_|refine QV (rr_idx1 Und.eq TyC.ty rfl rfl (show t < T + 1 by omega)) ?_|refine QV QL ?_|refine QV QA ?_|refine QV QlT ?_|refine QV QlF ?_|refine QV QhT ?_|refine QV QhF ?_|refine QV QeT ?_|refine QV QeF ?_|refine QV QaA ?_))
      refine TL_slv (i := 4) rfl fun hv1 hv2 => ?_
      refine TL_storeA (i := 2) (v := v3) (fun j => if j = t then v3 else vs j) TyC.ty rfl rfl rfl hv1 hv2 (show t < T + 1 by omega) (fun j _ => rfl) ?_
      conv=>arg 8;simp only[zA,zB,zC,zD,zE,zF,zG,zH,zI,rowS,ret,id_eq]
      refine TL_put (D' := fun j => j < T + 1) (f' := actF (fun j => if j = t then v3 else vs j) (actsK g.prods T nx (t + 1) [])) t 3 4 [0, 1, 2] (by decide) rfl rfl rfl (fun h => h.2 rfl) (fun j hj => by
        by_cases e : j = t
        · exact .inr e
        · exact .inl ⟨hj, e⟩) (fun j hj => by
        by_cases e : j = t
        · subst e
          rw [upd_eq]
          unfold actF
          dsimp only
          rw [hmine, if_pos rfl]
          rfl
        · rw [upd_ne e]
          unfold actF
          dsimp only
          rw [hoth j e, if_neg e]) ?_
      conv=>arg 8;simp only[zA,zB,zC,zD,zE,zF,zG,zH,zI,rowS,ret,id_eq]
      repeat(first|refine QV QP ?_|refine QZ ?_|refine qcT rfl ?_|refine qcF rfl ?_|refine E_blockX ?_|refine E_blockO rfl ?_|refine qs rfl rfl rfl rfl rfl rfl ?_|((try refine qg rfl rfl rfl ?_);first|refine QV QP ?_|refine QV QL ?_|refine QV QA ?_|refine QV QlT ?_|refine QV QlF ?_|refine QV QhT ?_|refine QV QhF ?_|refine QV QeT ?_|refine QV QeF ?_|refine QV QaA ?_))
      exact E_round (t + 1, fun j => if j = t then v3 else vs j) (by show t + 1 ≤ T; omega) (by show T - (t + 1) < T - t; omega) (by repeat' (first | exact True.intro | refine And.intro rfl ?_)) rfl
    · rw [if_neg c2] at hmine
      have hsame : actsK g.prods T nx (t + 1) [] = actsK g.prods T nx t [] := funext fun j => by
        by_cases e : j = t
        · subst e; rw [hmine, hmine0]
        · exact hoth j e
      repeat(first|refine QV QP ?_|refine QZ ?_|refine qcT rfl ?_|refine qcF rfl ?_|refine E_blockX ?_|refine E_blockO rfl ?_|refine qs rfl rfl rfl rfl rfl rfl ?_|((try refine qg rfl rfl rfl ?_);first|refine QV QP ?_|refine QV (rr_geq (b := false) rfl rfl (decide_eq_false c2)) ?_|refine QV QL ?_|refine QV QA ?_|refine QV QlT ?_|refine QV QlF ?_|refine QV QhT ?_|refine QV QhF ?_|refine QV QeT ?_|refine QV QeF ?_|refine QV QaA ?_))
      exact E_round (t + 1, vs) (by show t + 1 ≤ T; omega) (by show T - (t + 1) < T - t; omega) (by repeat' (first | exact True.intro | refine And.intro rfl ?_)) (by dsimp only; rw [hsame])
  obtain rfl : t = T := by omega
  repeat(first|refine QV QP ?_|refine QZ ?_|refine qcT rfl ?_|refine qcF rfl ?_|refine E_blockX ?_|refine E_blockO rfl ?_|refine qs rfl rfl rfl rfl rfl rfl ?_|((try refine qg rfl rfl rfl ?_);first|refine QV QP ?_|refine QV (rr_load1 (v := .slice (some ⟨bS, oS, none⟩) lS cS) TyC.ty rfl (at_blk (i := 1) rfl rfl)) ?_|refine QV (rr_idx1 Und.eq TyC.ty rfl rfl hnS) ?_|refine QV (rr_load1 (v := .slice bs s.length cs) TyC.ty rfl (at_old hcS)) ?_|refine QV QL ?_|refine QV QA ?_|refine QV QlT ?_|refine QV QlF ?_|refine QV QhT ?_|refine QV QhF ?_|refine QV QeT ?_|refine QV QeF ?_|refine QV QaA ?_))
  refine T_loop (ι := Nat × (Nat → Value)) (fun (k, _) => k ≤ s.length) (fun (k, _) => [(3, .pointer (some ⟨g3, 0, none⟩)), (7, .slice (some ⟨g7, 0, none⟩) (t + 1) (t + 1)), (47, .slice bs s.length cs), (48, .int .i64 (s.length : Int)), (49, .int .i64 (k : Int))])
    (fun (k, vs) => [blkO g3 (graV (t : Int) g.nons (.slice bp g.prods.length cp)).cells 24, blkO g4 (Value.agg #[.slice (some ⟨bS, oS, none⟩) lS cS, .slice (some ⟨bN, oN, none⟩) lN cN]).cells 103, rowA 86 vals g7 (t + 1) vs, famP (fun j => j < t + 1) (actF vs (actsK g.prods t nx t (s.take k)))]) (fun (k, _) => s.length - k) (0, vs) (Nat.zero_le _) (by repeat' (first | exact True.intro | refine And.intro rfl ?_)) rfl ?_
  rintro ⟨k, vs⟩ j1
  dsimp only at j1 ⊢
  clear hb1
  by_cases c2 : k < s.length
  · obtain ⟨b, off, rfl, hrd⟩ := hrS (by omega)
    have hat := fun (L : List Own) => at_el (L := L) itC_len hrd c2
    have hatA : ∀ (L : List Own) (j : Nat) (u : Value), (itC s[k])[j]? = some u → At (w : Base) L ⟨b, off + k * 3 + j, none⟩ u := hat
    clear hat hrd hrS
    have hxr := hr s[k] (List.getElem_mem c2)
    have htk : s.take (k + 1) = s.take k ++ [s[k]] := List.take_succ_eq_append_getElem c2
    have hall : ∀ c, actsK g.prods t nx t (s.take (k + 1)) c = actsK g.prods t nx t (s.take k) c ++ (match actOf g.prods c s[k] with | some x => [x] | none => []) := fun c => by
      rw [htk]
      unfold actsK
      rw [List.filterMap_append, ← List.append_assoc]
      congr 1
      rw [List.filterMap_cons]
      cases actOf g.prods c s[k] <;> rfl
    have hlen : ∀ c, (actsK g.prods t nx t (s.take k) c).length ≤ 20001 := fun c => Nat.le_trans actsK_len (by rw [List.length_take]; omega)
    generalize hit : s[k] = it at *
    obtain ⟨p, d, lo⟩ := it
    obtain ⟨r1, r2, r3, r4, r5, r6⟩ := hxr
    dsimp only at r1 r2 r3 r4 r5 r6
    obtain ⟨pn, rfl⟩ := Int.eq_ofNat_of_zero_le r1
    obtain ⟨dn, rfl⟩ := Int.eq_ofNat_of_zero_le r3
    obtain ⟨ln, rfl⟩ := Int.eq_ofNat_of_zero_le r5
    have hln : ln < t + 1 := by omega
    have hoth : ∀ j, j ≠ ln → actsK g.prods t nx t (s.take (k + 1)) j = actsK g.prods t nx t (s.take k) j := fun j hj => by
      rw [hall j]
      have : actOf g.prods j ((pn : Int), (dn : Int), (ln : Int)) = none := by
        unfold actOf
        rw [if_pos (by show (ln : Int) ≠ (j : Int); omega)]
      rw [this, List.append_nil]
    have hall2 := hall ln
    unfold actOf at hall2
    rw [if_neg (by show ¬ (ln : Int) ≠ (ln : Int); simp)] at hall2
    dsimp only at hall2
    clear hall htk
    repeat(first|refine QV QP ?_|refine QZ ?_|refine qcT rfl ?_|refine qcF rfl ?_|refine E_blockX ?_|refine E_blockO rfl ?_|refine qs rfl rfl rfl rfl rfl rfl ?_|((try refine qg rfl rfl rfl ?_);first|refine QV QP ?_|refine QV (rr_idxc Und.eq TyC.ty rfl rfl c2) ?_|refine QV (rr_loadN (cs := itC ((pn : Int), (dn : Int), (ln : Int))) TyC.ty rfl rfl (hatA _)) ?_|refine QV QL ?_|refine QV QA ?_|refine QV QlT ?_|refine QV QlF ?_|refine QV QhT ?_|refine QV QhF ?_|refine QV QeT ?_|refine QV QeF ?_|refine QV QaA ?_))
    refine TL_new rfl fun g11 => ?_
    conv=>arg 8;simp only[zA,zB,zC,zD,zE,zF,zG,zH,zI,rowS,ret,id_eq]
    refine TL_storeB (i := 4) (cs' := (itC ((pn : Int), (dn : Int), (ln : Int))).toArray) rfl rfl rfl rfl rfl rfl ?_
    conv=>arg 8;simp only[zA,zB,zC,zD,zE,zF,zG,zH,zI,rowS,ret,id_eq]
    have hFt : actF vs (actsK g.prods t nx t (s.take k)) ln = rowO 87 2 (vs ln) (actsK g.prods t nx t (s.take k) ln).length ((actsK g.prods t nx t (s.take k) ln).flatMap actC) := rfl
    have hll := hlen ln
    by_cases q1 : pn = g.prods.length
    · subst q1
      by_cases q2 : dn = 1
      · subst q2
        have hmine : actsK g.prods t nx t (s.take (k + 1)) ln = actsK g.prods t nx t (s.take k) ln ++ [(3, 0)] := by
          rw [if_pos ⟨rfl, rfl⟩] at hall2; exact hall2
        repeat(first|refine QV QP ?_|refine QZ ?_|refine qcT rfl ?_|refine qcF rfl ?_|refine E_blockX ?_|refine E_blockO rfl ?_|refine qs rfl rfl rfl rfl rfl rfl ?_|((try refine qg rfl rfl rfl ?_);first|refine QV QP ?_|refine QV (rr_load1 (v := .int .i64 (g.prods.length : Int)) TyC.ty rfl (at_blk (i := 4) rfl rfl)) ?_|refine QV (rr_load1 (v := .slice bp g.prods.length cp) TyC.ty rfl (at_blk (i := 0) rfl rfl)) ?_|refine QV (rr_load1 (v := .int .i64 1) TyC.ty rfl (at_blk (i := 4) rfl rfl)) ?_|refine QV QL ?_|refine QV QA ?_|refine QV QlT ?_|refine QV QlF ?_|refine QV QhT ?_|refine QV QhF ?_|refine QV QeT ?_|refine QV QeF ?_|refine QV QaA ?_))
        refine T_take (q := 3) ln rfl hln ?_
        rw [hFt]
        conv => arg 7; simp only [zA, zB, zC, zD, zE, zF, zG, zH, zI, rowS, ret, id_eq]
        refine T_ord ([blkO g11 (itC ((g.prods.length : Int), 1, (ln : Int))).toArray 60]) (.calm 0 (.calm 1 (.calm 2 (.calm 3 (.calm 4 (.calm 5 (.calm 6 (.calm 8 (.two 7 (.one 9 (.one 10 (.calm 11 (.one 12 (.done))))) 9 (.one 7 (.one 10 (.calm 11 (.one 12 (.done)))))))))))))) (sub_pick [4] (by decide) rfl) (by kernel_rfl) (by kernel_rfl) (by intro c a d v w h; cases d <;> exact h) ?_
        repeat(first|((first|refine TW_plain rfl rfl ?_|refine TW_gmet rfl rfl rfl rfl ?_);first|refine QW QP ?_|refine QW (rr_load1 (v := .int .i64 (ln : Int)) TyC.ty rfl (at_blk (i := 0) rfl rfl)) ?_|refine QW (rr_idx1 Und.eq TyC.ty rfl rfl hln) ?_|refine QW (rr_build rfl hb3) ?_|refine QW QL ?_|refine QW QA ?_|refine QW QlT ?_|refine QW QlF ?_|refine QW QhT ?_|refine QW QhF ?_|refine QW QeT ?_|refine QW QeF ?_|refine QW QaA ?_)|refine TW_skip rfl rfl rfl rfl rfl rfl rfl ?_|refine TW_done ?_)
        refine TW_two rfl rfl ?way1x ?way2x
        case' way1x =>
          refine TL_val (rr_load1 TyC.ty rfl (at_rowA (i := 2) rfl hln)) rfl rfl rfl (TW_on (sub_pick [4] (by decide) rfl) ?_)
          refine TW_one rfl (TL_one (cs := (actC (3, 0)).toArray) rfl rfl rfl rfl rfl fun g74 => TW_on (sub_pick [4] (by decide) rfl) ?_)
        case' way2x =>
          refine TL_one (cs := (actC (3, 0)).toArray) rfl rfl rfl rfl rfl fun g74 => TW_on (sub_pick [4] (by decide) rfl) ?_
          refine TW_one rfl (TL_val (rr_load1 TyC.ty rfl (at_rowA (i := 2) rfl hln)) rfl rfl rfl (TW_on (sub_pick [4] (by decide) rfl) ?_))
        all_goals
          refine TW_one rfl (TL_app1 (i := 5) (q := 6) rfl rfl rfl rfl rfl rfl (by omega) (by omega) rfl fun v3 => TW_on (sub_pick [4] (by decide) rfl) ?_)
          repeat(first|((first|refine TW_plain rfl rfl ?_|refine TW_gmet rfl rfl rfl rfl ?_);first|refine QW QP ?_|refine QW (rr_idx1 Und.eq TyC.ty rfl rfl hln) ?_|refine QW QL ?_|refine QW QA ?_|refine QW QlT ?_|refine QW QlF ?_|refine QW QhT ?_|refine QW QhF ?_|refine QW QeT ?_|refine QW QeF ?_|refine QW QaA ?_)|refine TW_skip rfl rfl rfl rfl rfl rfl rfl ?_|refine TW_done ?_)
          refine TW_one rfl (TL_slv (i := 5) rfl fun hv1 hv2 => TL_storeA (i := 2) (v := v3) (fun j => if j = ln then v3 else vs j) TyC.ty rfl rfl rfl hv1 hv2 hln (fun j _ => rfl) (TW_on (sub_pick [4] (by decide) rfl) ?_))
          repeat(first|((first|refine TW_plain rfl rfl ?_|refine TW_gmet rfl rfl rfl rfl ?_);first|refine QW QP ?_|refine QW QL ?_|refine QW QA ?_|refine QW QlT ?_|refine QW QlF ?_|refine QW QhT ?_|refine QW QhF ?_|refine QW QeT ?_|refine QW QeF ?_|refine QW QaA ?_)|refine TW_skip rfl rfl rfl rfl rfl rfl rfl ?_|refine TW_done ?_)
          refine E_put (D' := fun j => j < t + 1) (f' := actF (fun j => if j = ln then v3 else vs j) (actsK g.prods t nx t (s.take (k + 1)))) ln 3 5 [0, 1, 2] (by decide) rfl rfl rfl (fun h => h.2 rfl) (fun j hj => by
            by_cases e : j = ln
            · exact .inr e
            · exact .inl ⟨hj, e⟩) (fun j hj => by
            by_cases e : j = ln
            · subst e
              rw [upd_eq]
              unfold actF
              dsimp only
              rw [hmine, if_pos rfl, List.length_append, List.flatMap_append]
              rfl
            · rw [upd_ne e]
              unfold actF
              dsimp only
              rw [hoth j e, if_neg e]) ?_
          repeat(first|refine QV QP ?_|refine QZ ?_|refine qcT rfl ?_|refine qcF rfl ?_|refine E_blockX ?_|refine E_blockO rfl ?_|refine qs rfl rfl rfl rfl rfl rfl ?_|((try refine qg rfl rfl rfl ?_);first|refine QV QP ?_|refine QV QL ?_|refine QV QA ?_|refine QV QlT ?_|refine QV QlF ?_|refine QV QhT ?_|refine QV QhF ?_|refine QV QeT ?_|refine QV QeF ?_|refine QV QaA ?_))
          exact E_round (k + 1, fun j => if j = ln then v3 else vs j) (by show k + 1 ≤ s.length; omega) (by show s.length - (k + 1) < s.length - k; omega) (by repeat' (first | exact True.intro | refine And.intro rfl ?_)) rfl
      · have hsame : actsK g.prods t nx t (s.take (k + 1)) = actsK g.prods t nx t (s.take k) := funext fun j => by
          by_cases e : j = ln
          · subst e
            rw [if_neg (fun h => q2 (by have := h.2; omega)), if_neg (fun h => by have := h.1; omega)] at hall2
            rw [hall2]; exact List.append_nil _
          · exact hoth j e
        repeat(first|refine QV QP ?_|refine QZ ?_|refine qcT rfl ?_|refine qcF rfl ?_|refine E_blockX ?_|refine E_blockO rfl ?_|refine qs rfl rfl rfl rfl rfl rfl ?_|((try refine qg rfl rfl rfl ?_);first|refine QV QP ?_|refine QV (rr_load1 (v := .int .i64 (g.prods.length : Int)) TyC.ty rfl (at_blk (i := 4) rfl rfl)) ?_|refine QV (rr_load1 (v := .slice bp g.prods.length cp) TyC.ty rfl (at_blk (i := 0) rfl rfl)) ?_|refine QV (rr_load1 (v := .int .i64 (dn : Int)) TyC.ty rfl (at_blk (i := 4) rfl rfl)) ?_|refine QV QL ?_|refine QV QA ?_|refine QV QlT ?_|refine QV QlF ?_|refine QV QhT ?_|refine QV QhF ?_|refine QV QeT ?_|refine QV QeF ?_|refine QV QaA ?_))
        refine T_ord ([blkO g3 (graV (t : Int) g.nons (.slice bp g.prods.length cp)).cells 24, blkO g11 (itC ((g.prods.length : Int), (dn : Int), (ln : Int))).toArray 60]) (.calm 0 (.calm 1 (.calm 2 (.calm 3 (.calm 4 (.calm 5 (.calm 6 (.calm 7 (.calm 8 (.calm 9 (.calm 10 (.calm 11 (.calm 12 (.calm 13 (.calm 14 (.calm 15 (.calm 16 (.calm 17 (.calm 18 (.calm 19 (.done))))))))))))))))))))) (sub_pick [0, 4] (by decide) rfl) (by kernel_rfl) (by kernel_rfl) (by intro c a d v w h; cases d <;> exact h) ?_
        repeat(first|((first|refine TW_plain rfl rfl ?_|refine TW_gmet rfl rfl rfl rfl ?_);first|refine QW QP ?_|refine QW (rr_load1 (v := .int .i64 (g.prods.length : Int)) TyC.ty rfl (at_blk (i := 1) rfl rfl)) ?_|refine QW (rr_load1 (v := .slice bp g.prods.length cp) TyC.ty rfl (at_blk (i := 0) rfl rfl)) ?_|refine QW QL ?_|refine QW QA ?_|refine QW QlT ?_|refine QW QlF ?_|refine QW QhT ?_|refine QW QhF ?_|refine QW QeT ?_|refine QW QeF ?_|refine QW QaA ?_)|refine TW_skip rfl rfl rfl rfl rfl rfl rfl ?_|refine TW_done ?_)
        repeat(first|refine QV QP ?_|refine QZ ?_|refine qcT rfl ?_|refine qcF rfl ?_|refine E_blockX ?_|refine E_blockO rfl ?_|refine qs rfl rfl rfl rfl rfl rfl ?_|((try refine qg rfl rfl rfl ?_);first|refine QV QP ?_|refine QV QL ?_|refine QV QA ?_|refine QV QlT ?_|refine QV QlF ?_|refine QV QhT ?_|refine QV QhF ?_|refine QV QeT ?_|refine QV QeF ?_|refine QV QaA ?_))
        refine E_pick [0, 1, 2, 3] (by decide) rfl ?_
        exact E_round (k + 1, vs) (by show k + 1 ≤ s.length; omega) (by show s.length - (k + 1) < s.length - k; omega) (by repeat' (first | exact True.intro | refine And.intro rfl ?_)) (by dsimp only; rw [hsame]; rfl)
    · have hpn : pn < g.prods.length := by omega
      obtain ⟨pb, po, rfl, hFb, hpr⟩ := hrp (by omega)
      obtain ⟨bb, cb, hq1, hq2, hq3⟩ := prod_at hpr hpn
      have hpg : g.prods[pn] = prodAt g.prods (pn : Int) := by
        unfold prodAt
        rw [Int.toNat_natCast, List.getD_eq_getElem?_getD, List.getElem?_eq_getElem hpn]; rfl
      rw [hpg] at hq1 hq2 hq3
      have hatP : ∀ (L : List Own) (j : Nat) (v : Value), ([.int .i64 (prodAt g.prods (pn : Int)).1, .slice bb (prodAt g.prods (pn : Int)).2.length cb] : List Value)[j]? = some v → At w L ⟨pb, po + pn * 2 + j, none⟩ v := fun L j v hj => at_rd hq1 hj
      clear hpr hrp hq1 hq3
      by_cases q2 : dn = (prodAt g.prods (pn : Int)).2.length
      · subst q2
        have hmine : actsK g.prods t nx t (s.take (k + 1)) ln = actsK g.prods t nx t (s.take k) ln ++ [(2, (pn : Int))] := by
          rw [if_neg (fun h => q1 (by have := h.1; omega)), if_pos ⟨by omega, rfl⟩] at hall2; exact hall2
        repeat(first|refine QV QP ?_|refine QZ ?_|refine qcT rfl ?_|refine qcF rfl ?_|refine E_blockX ?_|refine E_blockO rfl ?_|refine qs rfl rfl rfl rfl rfl rfl ?_|((try refine qg rfl rfl rfl ?_);first|refine QV QP ?_|refine QV (rr_load1 (v := .int .i64 (pn : Int)) TyC.ty rfl (at_blk (i := 4) rfl rfl)) ?_|refine QV (rr_load1 (v := .slice (some ⟨pb, po, none⟩) g.prods.length cp) TyC.ty rfl (at_blk (i := 0) rfl rfl)) ?_|refine QV QL ?_|refine QV QA ?_|refine QV QlT ?_|refine QV QlF ?_|refine QV QhT ?_|refine QV QhF ?_|refine QV QeT ?_|refine QV QeF ?_|refine QV QaA ?_))
        refine T_ord ([blkO g3 (graV (t : Int) g.nons (.slice (some ⟨pb, po, none⟩) g.prods.length cp)).cells 24, blkO g11 (itC ((pn : Int), ((prodAt g.prods (pn : Int)).2.length : Int), (ln : Int))).toArray 60]) (.calm 0 (.calm 1 (.calm 2 (.calm 3 (.calm 4 (.calm 5 (.calm 6 (.calm 7 (.calm 8 (.calm 9 (.calm 10 (.calm 11 (.calm 12 (.calm 13 (.calm 14 (.calm 15 (.calm 16 (.calm 17 (.calm 18 (.calm 19 (.done))))))))))))))))))))) (sub_pick [0, 4] (by decide) rfl) (by kernel_rfl) (by kernel_rfl) (by intro c a d v w h; cases d <;> exact h) ?_
        repeat(first|((first|refine TW_plain rfl rfl ?_|refine TW_gmet rfl rfl rfl rfl ?_);first|refine QW QP ?_|refine QW (rr_load1 (v := .int .i64 (pn : Int)) TyC.ty rfl (at_blk (i := 1) rfl rfl)) ?_|refine QW (rr_load1 (v := .int .i64 ((prodAt g.prods (pn : Int)).2.length : Int)) TyC.ty rfl (at_blk (i := 1) rfl rfl)) ?_|refine QW (rr_load1 (v := .slice (some ⟨pb, po, none⟩) g.prods.length cp) TyC.ty rfl (at_blk (i := 0) rfl rfl)) ?_|refine QW (rr_idxc Und.eq TyC.ty rfl rfl hpn) ?_|refine QW (rr_load1 (v := .slice bb (prodAt g.prods (pn : Int)).2.length cb) TyC.ty rfl (hatP _ 1 _ rfl)) ?_|refine QW QL ?_|refine QW QA ?_|refine QW QlT ?_|refine QW QlF ?_|refine QW QhT ?_|refine QW QhF ?_|refine QW QeT ?_|refine QW QeF ?_|refine QW QaA ?_)|refine TW_skip rfl rfl rfl rfl rfl rfl rfl ?_|refine TW_done ?_)
        repeat(first|refine QV QP ?_|refine QZ ?_|refine qcT rfl ?_|refine qcF rfl ?_|refine E_blockX ?_|refine E_blockO rfl ?_|refine qs rfl rfl rfl rfl rfl rfl ?_|((try refine qg rfl rfl rfl ?_);first|refine QV QP ?_|refine QV QL ?_|refine QV QA ?_|refine QV QlT ?_|refine QV QlF ?_|refine QV QhT ?_|refine QV QhF ?_|refine QV QeT ?_|refine QV QeF ?_|refine QV QaA ?_))
        refine T_take (q := 3) ln rfl hln ?_
        rw [hFt]
        conv => arg 7; simp only [zA, zB, zC, zD, zE, zF, zG, zH, zI, rowS, ret, id_eq]
        refine T_ord ([blkO g11 (itC ((pn : Int), ((prodAt g.prods (pn : Int)).2.length : Int), (ln : Int))).toArray 60]) (.calm 0 (.calm 1 (.calm 2 (.calm 3 (.calm 4 (.calm 5 (.calm 6 (.calm 8 (.calm 9 (.calm 10 (.two 7 (.one 11 (.one 12 (.calm 13 (.one 14 (.done))))) 11 (.one 7 (.one 12 (.calm 13 (.one 14 (.done)))))))))))))))) (sub_pick [4] (by decide) rfl) (by kernel_rfl) (by kernel_rfl) (by intro c a d v w h; cases d <;> exact h) ?_
        repeat(first|((first|refine TW_plain rfl rfl ?_|refine TW_gmet rfl rfl rfl rfl ?_);first|refine QW QP ?_|refine QW (rr_load1 (v := .int .i64 (ln : Int)) TyC.ty rfl (at_blk (i := 0) rfl rfl)) ?_|refine QW (rr_load1 (v := .int .i64 (pn : Int)) TyC.ty rfl (at_blk (i := 0) rfl rfl)) ?_|refine QW (rr_idx1 Und.eq TyC.ty rfl rfl hln) ?_|refine QW (rr_build rfl (hb2 _)) ?_|refine QW QL ?_|refine QW QA ?_|refine QW QlT ?_|refine QW QlF ?_|refine QW QhT ?_|refine QW QhF ?_|refine QW QeT ?_|refine QW QeF ?_|refine QW QaA ?_)|refine TW_skip rfl rfl rfl rfl rfl rfl rfl ?_|refine TW_done ?_)
        refine TW_two rfl rfl ?way1y ?way2y
        case' way1y =>
          refine TL_val (rr_load1 TyC.ty rfl (at_rowA (i := 2) rfl hln)) rfl rfl rfl (TW_on (sub_pick [4] (by decide) rfl) ?_)
          refine TW_one rfl (TL_one (cs := (actC (2, (pn : Int))).toArray) rfl rfl rfl rfl rfl fun g74 => TW_on (sub_pick [4] (by decide) rfl) ?_)
        case' way2y =>
          refine TL_one (cs := (actC (2, (pn : Int))).toArray) rfl rfl rfl rfl rfl fun g74 => TW_on (sub_pick [4] (by decide) rfl) ?_
          refine TW_one rfl (TL_val (rr_load1 TyC.ty rfl (at_rowA (i := 2) rfl hln)) rfl rfl rfl (TW_on (sub_pick [4] (by decide) rfl) ?_))
        all_goals
          refine TW_one rfl (TL_app1 (i := 5) (q := 6) rfl rfl rfl rfl rfl rfl (by omega) (by omega) rfl fun v3 => TW_on (sub_pick [4] (by decide) rfl) ?_)
          repeat(first|((first|refine TW_plain rfl rfl ?_|refine TW_gmet rfl rfl rfl rfl ?_);first|refine QW QP ?_|refine QW (rr_idx1 Und.eq TyC.ty rfl rfl hln) ?_|refine QW QL ?_|refine QW QA ?_|refine QW QlT ?_|refine QW QlF ?_|refine QW QhT ?_|refine QW QhF ?_|refine QW QeT ?_|refine QW QeF ?_|refine QW QaA ?_)|refine TW_skip rfl rfl rfl rfl rfl rfl rfl ?_|refine TW_done ?_)
          refine TW_one rfl (TL_slv (i := 5) rfl fun hv1 hv2 => TL_storeA (i := 2) (v := v3) (fun j => if j = ln then v3 else vs j) TyC.ty rfl rfl rfl hv1 hv2 hln (fun j _ => rfl) (TW_on (sub_pick [4] (by decide) rfl) ?_))
          repeat(first|((first|refine TW_plain rfl rfl ?_|refine TW_gmet rfl rfl rfl rfl ?_);first|refine QW QP ?_|refine QW QL ?_|refine QW QA ?_|refine QW QlT ?_|refine QW QlF ?_|refine QW QhT ?_|refine QW QhF ?_|refine QW QeT ?_|refine QW QeF ?_|refine QW QaA ?_)|refine TW_skip rfl rfl rfl rfl rfl rfl rfl ?_|refine TW_done ?_)
          refine E_put (D' := fun j => j < t + 1) (f' := actF (fun j => if j = ln then v3 else vs j) (actsK g.prods t nx t (s.take (k + 1)))) ln 3 5 [0, 1, 2] (by decide) rfl rfl rfl (fun h => h.2 rfl) (fun j hj => by
            by_cases e : j = ln
            · exact .inr e
            · exact .inl ⟨hj, e⟩) (fun j hj => by
            by_cases e : j = ln
            · subst e
              rw [upd_eq]
              unfold actF
              dsimp only
              rw [hmine, if_pos rfl, List.length_append, List.flatMap_append]
              rfl
            · rw [upd_ne e]
              unfold actF
              dsimp only
              rw [hoth j e, if_neg e]) ?_
          repeat(first|refine QV QP ?_|refine QZ ?_|refine qcT rfl ?_|refine qcF rfl ?_|refine E_blockX ?_|refine E_blockO rfl ?_|refine qs rfl rfl rfl rfl rfl rfl ?_|((try refine qg rfl rfl rfl ?_);first|refine QV QP ?_|refine QV QL ?_|refine QV QA ?_|refine QV QlT ?_|refine QV QlF ?_|refine QV QhT ?_|refine QV QhF ?_|refine QV QeT ?_|refine QV QeF ?_|refine QV QaA ?_))
          exact E_round (k + 1, fun j => if j = ln then v3 else vs j) (by show k + 1 ≤ s.length; omega) (by show s.length - (k + 1) < s.length - k; omega) (by repeat' (first | exact True.intro | refine And.intro rfl ?_)) rfl
      · have hsame : actsK g.prods t nx t (s.take (k + 1)) = actsK g.prods t nx t (s.take k) := funext fun j => by
          by_cases e : j = ln
          · subst e
            rw [if_neg (fun h => q1 (by have := h.1; omega)), if_neg (fun h => q2 (by have := h.2; omega))] at hall2
            rw [hall2]; exact List.append_nil _
          · exact hoth j e
        repeat(first|refine QV QP ?_|refine QZ ?_|refine qcT rfl ?_|refine qcF rfl ?_|refine E_blockX ?_|refine E_blockO rfl ?_|refine qs rfl rfl rfl rfl rfl rfl ?_|((try refine qg rfl rfl rfl ?_);first|refine QV QP ?_|refine QV (rr_load1 (v := .int .i64 (pn : Int)) TyC.ty rfl (at_blk (i := 4) rfl rfl)) ?_|refine QV (rr_load1 (v := .slice (some ⟨pb, po, none⟩) g.prods.length cp) TyC.ty rfl (at_blk (i := 0) rfl rfl)) ?_|refine QV QL ?_|refine QV QA ?_|refine QV QlT ?_|refine QV QlF ?_|refine QV QhT ?_|refine QV QhF ?_|refine QV QeT ?_|refine QV QeF ?_|refine QV QaA ?_))
        refine T_ord ([blkO g3 (graV (t : Int) g.nons (.slice (some ⟨pb, po, none⟩) g.prods.length cp)).cells 24, blkO g11 (itC ((pn : Int), (dn : Int), (ln : Int))).toArray 60]) (.calm 0 (.calm 1 (.calm 2 (.calm 3 (.calm 4 (.calm 5 (.calm 6 (.calm 7 (.calm 8 (.calm 9 (.calm 10 (.calm 11 (.calm 12 (.calm 13 (.calm 14 (.calm 15 (.calm 16 (.calm 17 (.calm 18 (.calm 19 (.done))))))))))))))))))))) (sub_pick [0, 4] (by decide) rfl) (by kernel_rfl) (by kernel_rfl) (by intro c a d v w h; cases d <;> exact h) ?_
        repeat(first|((first|refine TW_plain rfl rfl ?_|refine TW_gmet rfl rfl rfl rfl ?_);first|refine QW QP ?_|refine QW (rr_load1 (v := .int .i64 (pn : Int)) TyC.ty rfl (at_blk (i := 1) rfl rfl)) ?_|refine QW (rr_load1 (v := .int .i64 (dn : Int)) TyC.ty rfl (at_blk (i := 1) rfl rfl)) ?_|refine QW (rr_load1 (v := .slice (some ⟨pb, po, none⟩) g.prods.length cp) TyC.ty rfl (at_blk (i := 0) rfl rfl)) ?_|refine QW (rr_idxc Und.eq TyC.ty rfl rfl hpn) ?_|refine QW (rr_load1 (v := .slice bb (prodAt g.prods (pn : Int)).2.length cb) TyC.ty rfl (hatP _ 1 _ rfl)) ?_|refine QW QL ?_|refine QW QA ?_|refine QW QlT ?_|refine QW QlF ?_|refine QW QhT ?_|refine QW QhF ?_|refine QW QeT ?_|refine QW QeF ?_|refine QW QaA ?_)|refine TW_skip rfl rfl rfl rfl rfl rfl rfl ?_|refine TW_done ?_)
        repeat(first|refine QV QP ?_|refine QZ ?_|refine qcT rfl ?_|refine qcF rfl ?_|refine E_blockX ?_|refine E_blockO rfl ?_|refine qs rfl rfl rfl rfl rfl rfl ?_|((try refine qg rfl rfl rfl ?_);first|refine QV QP ?_|refine QV QL ?_|refine QV QA ?_|refine QV QlT ?_|refine QV QlF ?_|refine QV QhT ?_|refine QV QhF ?_|refine QV QeT ?_|refine QV QeF ?_|refine QV QaA ?_))
        refine E_pick [0, 1, 2, 3] (by decide) rfl ?_
        exact E_round (k + 1, vs) (by show k + 1 ≤ s.length; omega) (by show s.length - (k + 1) < s.length - k; omega) (by repeat' (first | exact True.intro | refine And.intro rfl ?_)) (by dsimp only; rw [hsame]; rfl)
  · obtain rfl : k = s.length := by omega
    rw [List.take_length]
    repeat(first|refine QV QP ?_|refine QZ ?_|refine qcT rfl ?_|refine qcF rfl ?_|refine E_blockX ?_|refine E_blockO rfl ?_|refine qs rfl rfl rfl rfl rfl rfl ?_|((try refine qg rfl rfl rfl ?_);first|refine QV QP ?_|refine QV QL ?_|refine QV QA ?_|refine QV QlT ?_|refine QV QlF ?_|refine QV QhT ?_|refine QV QhF ?_|refine QV QeT ?_|refine QV QeF ?_|refine QV QaA ?_))
    exact E_ret1 rfl rfl fun w hm => hm.meets (S := actsS t (actsI g.prods t s nx)) (g7, vs) trivial [2, 3] (by decide) rfl
end Go.Proofs.Ytlojfbnimmdehaa.eng

/- ItD -/
namespace Go.Proofs.Ytlojfbnimmdehaa.eng
open Go.RowKit kit mix gramL treeL factsL itemL smallL
def itCnt (c : itemL.Item → Nat) (x : itemL.Item) : Value := .int .i64 (c x : Int)
def itUp (c : itemL.Item → Nat) (it : itemL.Item) (x : itemL.Item) : Nat := if x = it then c x + 1 else c x
/-- how often each was handed in, and what is told -/
structure PutOk (c : itemL.Item → Nat) (out : List itemL.Item) (b : Nat) : Prop where
  zero : ∀ x, c x = 0 ↔ x ∉ out
  le : ∀ x, c x ≤ b
theorem PutOk.put {c : itemL.Item → Nat} {out : List itemL.Item} {b : Nat} (h : PutOk c out b) (it : itemL.Item) : PutOk (itUp c it) (more out it) (b + 2) := by
  refine ⟨fun x => ?_, fun x => ?_⟩
  · unfold itUp
    by_cases e : x = it
    · subst e
      rw [if_pos rfl]
      constructor
      · intro h; omega
      · intro h; exact absurd (mem_more.2 (.inr rfl)) h
    · rw [if_neg e, h.zero x]
      rw [mem_more]
      constructor
      · intro h1 h2; exact h2.elim h1 e
      · intro h1 h2; exact h1 (.inl h2)
  · unfold itUp
    have := h.le x
    split <;> omega
def putL (g5 gm g6 b : Nat) (v : Value) (c : itemL.Item → Nat) (out : List itemL.Item) : List Own :=
  [blkO g5 #[.map (some gm)] 165, mapT itK gm (.int .i64 0) (itCnt c) b, blkO g6 #[v] 51, rowO 60 3 v out.length (out.flatMap itC)]
theorem it_oneC (x : itemL.Item) : ∀ u ∈ itC x, u.oneCell' = true := by
  intro u hu
  simp only [itC, List.mem_cons, List.not_mem_nil, or_false] at hu
  rcases hu with rfl | rfl | rfl <;> rfl
set_option maxHeartbeats 2000000 in
theorem itPut_calls (g5 gm g6 b : Nat) (v : Value) (c : itemL.Item → Nat) (out : List itemL.Item) (it : itemL.Item) (hit : itK.ok it) (hp : PutOk c out b) (hb : b + 2 ≤ 1152921504606846976) (ho : out.length + 1 ≤ 1000000) (w : World) (B : Base) (hm : Mem B (putL g5 gm g6 b v c out) w) :
    Calls Try.prog 82 #[.agg (itC it).toArray, .pointer (some ⟨g5, 0, none⟩), .pointer (some ⟨g6, 0, none⟩)] w (MeetsB ⟨fun _ => True, fun _ => .tuple #[], fun v' => putL g5 gm g6 (b + 2) v' (itUp c it) (more out it)⟩ B) := by
  unfold putL at hm
  have hle := hp.le it
  have hz := hp.zero it
  obtain ⟨n, hn⟩ : ∃ n, c it = n := ⟨_, rfl⟩
  obtain ⟨F, hF⟩ : ∃ F, itCnt c = F := ⟨_, rfl⟩
  obtain ⟨F', hF'⟩ : ∃ F', itCnt (itUp c it) = F' := ⟨_, rfl⟩
  have hcv : F it = .int .i64 (n : Int) := by rw [← hF, ← hn]; rfl
  have hF1 : F' it = .int .i64 ((n + 1 : Nat) : Int) := by rw [← hF', ← hn]; show Value.int .i64 ((itUp c it it : Nat) : Int) = _; unfold itUp; rw [if_pos rfl]
  have hnx : ∀ y, itK.ok y → F' y = if y = it then .int .i64 ((n + 1 : Nat) : Int) else F y := fun y _ => by
    rw [← hF', ← hF, ← hn]
    show Value.int .i64 ((itUp c it y : Nat) : Int) = if y = it then _ else Value.int .i64 ((c y : Nat) : Int)
    unfold itUp
    by_cases e : y = it
    · subst e; rw [if_pos rfl, if_pos rfl]
    · rw [if_neg e, if_neg e]
  rw [hF] at hm
  rw [hn] at hle hz
  clear hp
  refine enterB hm (args := [.agg (itC it).toArray, .pointer (some ⟨g5, 0, none⟩), .pointer (some ⟨g6, 0, none⟩)]) (n := 18) Try.func82 rfl rfl rfl ?_
  refine T_seq (T_region (TL_box rfl rfl rfl fun g3 => ?_))
  conv=>arg 8;simp only[zA,zB,zC,zD,zE,zF,zG,zH,zI,rowS,ret,id_eq]
  repeat(first|refine QV QP ?_|refine QZ ?_|refine qcT rfl ?_|refine qcF rfl ?_|refine QV QeT ?_|refine QV QeF ?_|refine QV QaA ?_)
  (repeat refine T_seq ?_)
  refine T_midq (ι := Unit) (fun _ => True) (fun _ => [(1, .pointer (some ⟨g5, 0, none⟩)), (2, .pointer (some ⟨g6, 0, none⟩)), (3, .pointer (some ⟨g3, 0, none⟩))]) (fun _ => [blkO g5 #[.map (some gm)] 165, mapT itK gm (.int .i64 0) F' (b + 1 + 1), blkO g6 #[v] 51, rowO 60 3 v out.length (out.flatMap itC), blkO g3 (itC it).toArray 60]) ?_ ?_
  · refine T_ord ([blkO g5 #[.map (some gm)] 165, blkO g3 (itC it).toArray 60]) (.calm 0 (.calm 1 (.two 2 (.calm 3 (.one 4 (.calm 5 (.one 6 (.done))))) 4 (.calm 5 (.one 2 (.calm 3 (.one 6 (.done)))))))) (sub_pick [0, 4] (by decide) rfl) (by kernel_rfl) (by kernel_rfl) (by intro c a d v w h; cases d <;> exact h) ?_
    repeat(first|((first|refine TW_plain rfl rfl ?_|refine TW_gmet rfl rfl rfl rfl ?_);first|refine QW QP ?_|refine QW (rr_load1 (v := .map (some gm)) TyC.ty rfl (at_blk (i := 0) rfl rfl)) ?_|refine QW (rr_loadB (i := 1) TyC.ty rfl rfl rfl) ?_|refine QW QeT ?_|refine QW QeF ?_|refine QW QaA ?_)|refine TW_done ?_)
    refine TW_two rfl rfl ?_ ?_
    · refine TL_val (rr_lookT itK Und.eq zero_i64 (i := 1) rfl rfl (x := it) rfl hit hcv) rfl rfl rfl (TW_on (sub_pick [0, 4] (by decide) rfl) ?_)
      repeat(first|((first|refine TW_plain rfl rfl ?_|refine TW_gmet rfl rfl rfl rfl ?_);first|refine QW QP ?_|refine QW (rr_add64 (r := ((n + 1 : Nat) : Int)) rfl rfl (by omega) (by omega) (by omega)) ?_|refine QW QeT ?_|refine QW QeF ?_|refine QW QaA ?_)|refine TW_done ?_)
      refine TW_one rfl (TL_entry itK Und.eq zero_i64 (i := 1) rfl rfl (x := it) rfl hit (by omega) rfl fun st => TW_on (sub_pick [0, 4] (by decide) rfl) ?_)
      repeat(first|((first|refine TW_plain rfl rfl ?_|refine TW_gmet rfl rfl rfl rfl ?_);first|refine QW QP ?_|refine QW QeT ?_|refine QW QeF ?_|refine QW QaA ?_)|refine TW_done ?_)
      refine TW_one rfl (TL_entSet itK F' Und.eq (i := 1) rfl rfl rfl rfl hit (by omega) hnx (TW_on (sub_pick [0, 4] (by decide) rfl) ?_))
      repeat(first|((first|refine TW_plain rfl rfl ?_|refine TW_gmet rfl rfl rfl rfl ?_);first|refine QW QP ?_|refine QW QeT ?_|refine QW QeF ?_|refine QW QaA ?_)|refine TW_done ?_)
      exact E_mid () trivial (by repeat' (first | exact True.intro | refine And.intro rfl ?_)) rfl
    · refine TL_entry itK Und.eq zero_i64 (i := 1) rfl rfl (x := it) rfl hit (by omega) rfl fun st => TW_on (sub_pick [0, 4] (by decide) rfl) ?_
      repeat(first|((first|refine TW_plain rfl rfl ?_|refine TW_gmet rfl rfl rfl rfl ?_);first|refine QW QP ?_|refine QW QeT ?_|refine QW QeF ?_|refine QW QaA ?_)|refine TW_done ?_)
      refine TW_one rfl (TL_val (rr_lookE itK Und.eq zero_i64 (i := 1) rfl rfl (x := it) rfl hit hcv) rfl rfl rfl (TW_on (sub_pick [0, 4] (by decide) rfl) ?_))
      repeat(first|((first|refine TW_plain rfl rfl ?_|refine TW_gmet rfl rfl rfl rfl ?_);first|refine QW QP ?_|refine QW (rr_add64 (r := ((n + 1 : Nat) : Int)) rfl rfl (by omega) (by omega) (by omega)) ?_|refine QW QeT ?_|refine QW QeF ?_|refine QW QaA ?_)|refine TW_done ?_)
      refine TW_one rfl (TL_entSet itK F' Und.eq (i := 1) rfl rfl rfl rfl hit (by omega) hnx (TW_on (sub_pick [0, 4] (by decide) rfl) ?_))
      repeat(first|((first|refine TW_plain rfl rfl ?_|refine TW_gmet rfl rfl rfl rfl ?_);first|refine QW QP ?_|refine QW QeT ?_|refine QW QeF ?_|refine QW QaA ?_)|refine TW_done ?_)
      exact E_mid () trivial (by repeat' (first | exact True.intro | refine And.intro rfl ?_)) rfl
  rintro ⟨⟩ _
  by_cases c1 : it ∈ out
  · have hm1 : more out it = out := if_pos c1
    rw [hm1]
    have hn0 : n ≠ 0 := fun e => hz.1 e c1
    clear hnx hcv
    repeat(first|refine QV QP ?_|refine QZ ?_|refine qcT rfl ?_|refine qcF rfl ?_|refine QV (rr_load1 (v := .map (some gm)) TyC.ty rfl (at_blk (i := 0) rfl rfl)) ?_|refine QV (rr_loadB (i := 4) TyC.ty rfl rfl rfl) ?_|refine QV (rr_lookT itK Und.eq zero_i64 (i := 1) rfl rfl (x := it) rfl hit hF1) ?_|refine QV (rr_eql (b := false) rfl rfl (decide_eq_false (by omega))) ?_|refine QV QeT ?_|refine QV QeF ?_|refine QV QaA ?_)
    exact E_end0 rfl fun w hm => hm.meetsB (S := ⟨fun (_ : Value) => True, fun _ => .tuple #[], fun v' => putL g5 gm g6 (b + 2) v' (itUp c it) out⟩) v trivial [0, 1, 2, 3] (by decide) (by unfold putL; rw [← hF']; rfl)
  · have hm1 : more out it = out ++ [it] := if_neg c1
    rw [hm1]
    have hn0 : n = 0 := hz.2 c1
    clear hnx hcv
    repeat(first|refine QV QP ?_|refine QZ ?_|refine qcT rfl ?_|refine qcF rfl ?_|refine QV (rr_load1 (v := .map (some gm)) TyC.ty rfl (at_blk (i := 0) rfl rfl)) ?_|refine QV (rr_loadB (i := 4) TyC.ty rfl rfl rfl) ?_|refine QV (rr_lookT itK Und.eq zero_i64 (i := 1) rfl rfl (x := it) rfl hit hF1) ?_|refine QV (rr_eql (b := true) rfl rfl (decide_eq_true (by omega))) ?_|refine QV (rr_load1 (v := v) TyC.ty rfl (at_blk (i := 2) rfl rfl)) ?_|refine QV QeT ?_|refine QV QeF ?_|refine QV QaA ?_)
    refine TL_litN (cs := (itC it).toArray) [.agg (itC it).toArray] rfl rfl rfl (by intro v hv; simp only [List.mem_cons, List.not_mem_nil, or_false] at hv; subst hv; rfl) rfl rfl rfl fun g16 => ?_
    conv=>arg 8;simp only[zA,zB,zC,zD,zE,zF,zG,zH,zI,rowS,ret,id_eq]
    refine TL_appSl (i := 3) (e := 60) (size := 3) (bytes := 24) (m := out.length) (xs := out.flatMap itC) (k := 1) (ys := itC it) rfl (sl_blk (i := 5) rfl (fun j u h => by simpa using h) (Nat.le_refl 1) (by decide)) rfl rfl rfl (it_oneC it) (by omega) (by omega) rfl fun v' => ?_
    conv=>arg 8;simp only[zA,zB,zC,zD,zE,zF,zG,zH,zI,rowS,ret,id_eq]
    refine TL_slv (i := 3) rfl fun hv1 hv2 => ?_
    refine TL_store1 (i := 2) rfl rfl rfl hv1 hv2 rfl ?_
    conv=>arg 8;simp only[zA,zB,zC,zD,zE,zF,zG,zH,zI,rowS,ret,id_eq]
    repeat(first|refine QV QP ?_|refine QZ ?_|refine qcT rfl ?_|refine qcF rfl ?_|refine QV QeT ?_|refine QV QeF ?_|refine QV QaA ?_)
    exact E_end0 rfl fun w hm => hm.meetsB (S := ⟨fun (_ : Value) => True, fun _ => .tuple #[], fun v' => putL g5 gm g6 (b + 2) v' (itUp c it) (out ++ [it])⟩) v' trivial [0, 1, 2, 3] (by decide) (by unfold putL; rw [← hF', List.flatMap_append, List.length_append]; rfl)
end Go.Proofs.Ytlojfbnimmdehaa.eng

/- SortJ -/
namespace Go.Proofs.Ytlojfbnimmdehaa.eng
open Go.Shelf
def sortIt_ren : Go.Shelf.Ren := ⟨fun | 6 => 84 | 15 => 112 | 14 => 111 | 28 => 137 | 29 => 138 | 20 => 129 | 21 => 130 | 22 => 131 | 23 => 132 | 24 => 133 | 25 => 134 | 26 => 135 | 27 => 136 | 46 => 141 | 47 => 142 | 48 => 143 | 49 => 144 | 50 => 145 | 57 => 146 | n => n, fun | 22 => 51 | 24 => 60 | 25 => 169 | 3 => 3 | 39 => 202 | 0 => 0 | 53 => 231 | 55 => 97 | 4 => 4 | 46 => 225 | 45 => 224 | 50 => 156 | 5 => 5 | 9 => 9 | 66 => 234 | 70 => 191 | 76 => 239 | 77 => 240 | n => n, fun | n => n⟩
theorem sortIt : Go.Proofs.SlLaysF0.n6 Try.prog sortIt_ren := {
  mixed := by kernel_rfl
  f6 := ⟨Try.f84.name, by decide, Try.func84.trans (congrArg some (by kernel_rfl))⟩
  f14 := ⟨Try.f111.name, by decide, Try.func111.trans (congrArg some (by kernel_rfl))⟩
  f15 := Try.func112.trans (congrArg some (by kernel_rfl))
  f20 := ⟨Try.f129.name, by decide, Try.func129.trans (congrArg some (by kernel_rfl))⟩
  f21 := ⟨Try.f130.name, by decide, Try.func130.trans (congrArg some (by kernel_rfl))⟩
  f22 := ⟨Try.f131.name, by decide, Try.func131.trans (congrArg some (by kernel_rfl))⟩
  f23 := ⟨Try.f132.name, by decide, Try.func132.trans (congrArg some (by kernel_rfl))⟩
  f24 := ⟨Try.f133.name, by decide, Try.func133.trans (congrArg some (by kernel_rfl))⟩
  f25 := ⟨Try.f134.name, by decide, Try.func134.trans (congrArg some (by kernel_rfl))⟩
  f26 := ⟨Try.f135.name, by decide, Try.func135.trans (congrArg some (by kernel_rfl))⟩
  f27 := ⟨Try.f136.name, by decide, Try.func136.trans (congrArg some (by kernel_rfl))⟩
  f28 := Try.func137.trans (congrArg some (by kernel_rfl))
  f29 := Try.func138.trans (congrArg some (by kernel_rfl))
  f46 := ⟨Try.f141.name, by decide, Try.func141.trans (congrArg some (by kernel_rfl))⟩
  f47 := Try.func142.trans (congrArg some (by kernel_rfl))
  f48 := Try.func143.trans (congrArg some (by kernel_rfl))
  f49 := ⟨Try.f144.name, by decide, Try.func144.trans (congrArg some (by kernel_rfl))⟩
  f50 := ⟨Try.f145.name, by decide, Try.func145.trans (congrArg some (by kernel_rfl))⟩
  f57 := ⟨Try.f146.name, by decide, Try.func146.trans (congrArg some (by kernel_rfl))⟩
  t0 := Try.underlying0
  a0 := Try.isAgg0
  z0 := Try.sizeOf0
  v0 := Try.zeroValue0
  t3 := Try.underlying3
  a3 := Try.isAgg3
  z3 := Try.sizeOf3
  v3 := Try.zeroValue3
  t4 := Try.underlying4
  a4 := Try.isAgg4
  z4 := Try.sizeOf4
  v4 := Try.zeroValue4
  t5 := Try.underlying5
  a5 := Try.isAgg5
  z5 := Try.sizeOf5
  v5 := Try.zeroValue5
  t9 := Try.underlying9
  a9 := Try.isAgg9
  z9 := Try.sizeOf9
  v9 := Try.zeroValue9
  t22 := Try.underlying51
  a22 := Try.isAgg51
  z22 := Try.sizeOf51
  v22 := Try.zeroValue51
  t25 := Try.underlying169
  a25 := Try.isAgg169
  z25 := Try.sizeOf169
  v25 := Try.zeroValue169
  t39 := Try.underlying202
  a39 := Try.isAgg202
  z39 := Try.sizeOf202
  v39 := Try.zeroValue202
  t45 := Try.underlying224
  a45 := Try.isAgg224
  z45 := Try.sizeOf224
  v45 := Try.zeroValue224
  t46 := Try.underlying225
  a46 := Try.isAgg225
  z46 := Try.sizeOf225
  v46 := Try.zeroValue225
  t50 := Try.underlying156
  a50 := Try.isAgg156
  z50 := Try.sizeOf156
  v50 := Try.zeroValue156
  t53 := Try.underlying231
  a53 := Try.isAgg231
  z53 := Try.sizeOf231
  v53 := Try.zeroValue231
  t55 := Try.underlying97
  a55 := Try.isAgg97
  z55 := Try.sizeOf97
  v55 := Try.zeroValue97
  t66 := Try.underlying234
  a66 := Try.isAgg234
  z66 := Try.sizeOf234
  v66 := Try.zeroValue234
  t70 := Try.underlying191
  a70 := Try.isAgg191
  z70 := Try.sizeOf191
  v70 := Try.zeroValue191
  t76 := Try.underlying239
  a76 := Try.isAgg239
  z76 := Try.sizeOf239
  v76 := Try.zeroValue239
  t77 := Try.underlying240
  a77 := Try.isAgg240
  z77 := Try.sizeOf240
  v77 := Try.zeroValue240 }
end Go.Proofs.Ytlojfbnimmdehaa.eng

/- ItE -/
namespace Go.Proofs.Ytlojfbnimmdehaa.eng
open Go.RowKit kit mix itemL Go.Sort
theorem put_blockV (w : World) (n g : Nat) (d : Array Value) (os : Array Obj) {k : Nat} (hk : k < w.heap.size) (hg : k ≠ g) : (grow (putRow id (Go.Sort.ahead w n) g 0 d) os).heap[k]? = w.heap[k]? := by
  rw [heap_grow_old _ _ (by rw [size_putRow]; exact hk)]
  show (w.heap.modify g _)[k]? = w.heap[k]?
  rw [Array.getElem?_modify, if_neg (fun h => hg h.symm)]
theorem put_memV {B : Base} {w : World} {e : TypeId} {g cap m size : Nat} {xs : List Value} (hm : Mem B [rowO e size (.slice (some ⟨g, 0, none⟩) m cap) m xs] w) (d : Array Value) (hd : d.size = m * size) (n : Nat) (os : Array Obj) :
    Mem B [rowO e size (.slice (some ⟨g, 0, none⟩) m cap) m d.toList] (grow (putRow id (Go.Sort.ahead w n) g 0 d) os) := by
  have ho : w.ownsRow 0 e size (.slice (some ⟨g, 0, none⟩) m cap) m xs := hm.get (i := 0) rfl
  obtain ⟨hl, hr⟩ := ho
  rcases hr with ⟨h, _⟩ | ⟨g2, cap2, cur, hv, _, hg, hc, hx, hs, ht⟩
  · cases h
  cases hv
  have hmay : B.may g := (hm.owns.all 0 _ rfl).2 g (.inl rfl)
  have hgw : g < w.heap.size := (Array.getElem?_eq_some_iff.1 hg).1
  have hheap : (grow (putRow id (Go.Sort.ahead w n) g 0 d) os).heap[g]? = some (.cells (putCells id 0 d cur) e (0, 0)) := by
    rw [heap_grow_old _ _ (by rw [size_putRow]; exact hgw)]
    show (w.heap.modify g (onCells (putCells id 0 d)))[g]? = _
    rw [Array.getElem?_modify, if_pos rfl, hg]; rfl
  have hle : m * size ≤ cap * size := Nat.mul_le_mul_right _ hc
  refine ⟨⟨hm.low.os, hm.low.tape, hm.low.output, ?_, fun k hk hx => ?_⟩, OwnsP.one ⟨?_, .inr ⟨g, cap, _, rfl, Nat.zero_le _, hheap, hc, hx, ?_, ?_⟩⟩ fun k hk => ?_⟩
  · rw [size_grow, size_putRow]; exact Nat.le_trans hm.low.size (Nat.le_add_right _ _)
  · have hkg : k ≠ g := fun e => by
      subst e
      rcases hmay with h | h
      · omega
      · exact hx h
    rw [put_blockV w n g d os (Nat.lt_of_lt_of_le hk hm.low.size) hkg]
    exact hm.low.block k hk hx
  · rw [Array.length_toList, hd]
  · unfold putCells; rw [Array.size_mapIdx]; exact hs
  · apply List.ext_getElem?
    intro j
    rw [List.getElem?_take]
    by_cases hj : j < m * size
    · have hjc : j < cur.size := by omega
      rw [if_pos hj, Array.getElem?_toList, Array.getElem?_toList]
      unfold putCells
      rw [Array.getElem?_mapIdx, Array.getElem?_eq_getElem hjc, Option.map_some, if_pos ⟨Nat.zero_le _, by omega⟩, Nat.sub_zero, getElem!_pos d j (by omega), Array.getElem?_eq_getElem (by omega : j < d.size)]
      rfl
    · rw [if_neg hj, Array.getElem?_toList, Array.getElem?_eq_none (by omega)]
  · rcases hk with h | h
    · simp only [rowO, Value.ownBlock, Option.some.injEq] at h; subst h; exact hmay
    · exact h.elim
theorem swo_it : SWO (ltOf ordI) := ⟨ltI_irr, fun _ _ _ h1 h2 => ltI_tr h1 h2, fun x y z h1 h2 => by
  have h1 : ltI x y = false := h1
  have h2 : ltI y z = false := h2
  show ltI x z = false
  rw [ltI_no] at *; omega⟩
theorem flat_it (l : List itemL.Item) : (flatK itC 3 l.toArray).toList = l.flatMap itC := by
  have hL : (l.flatMap itC).length = l.length * 3 := len_el itC_len l
  apply List.ext_getElem?
  intro t
  by_cases ht : t < l.length * 3
  · have hd : t / 3 < l.length := by omega
    have h1 := get_flatK itC 3 l.toArray t (by simpa using ht)
    rw [getElem!_pos (flatK itC 3 l.toArray) t (by simpa using ht), getElem!_pos l.toArray (t / 3) (by simpa using hd)] at h1
    have h2 := flatten_get (c := 3) (l.map itC) (fun x hx => by obtain ⟨y, _, rfl⟩ := List.mem_map.1 hx; exact itC_len y) (t / 3) (t % 3) (by simpa using hd) (Nat.mod_lt _ (by decide))
    rw [show t / 3 * 3 + t % 3 = t by omega, List.getElem_map] at h2
    rw [Array.getElem?_toList, Array.getElem?_eq_getElem (by simpa using ht), h1]
    show _ = (l.map itC).flatten[t]?
    rw [h2]
    have h3 : t % 3 < (itC l[t / 3]).length := by rw [itC_len]; exact Nat.mod_lt _ (by decide)
    rw [List.getElem?_eq_getElem h3]
    simp only [List.getElem_toArray]
    rw [getElem!_pos (itC l[t / 3]) (t % 3) h3]
  · rw [List.getElem?_eq_none (by rw [Array.length_toList, size_flatK]; simp; omega), List.getElem?_eq_none (by omega)]
theorem row_holdsV {w : World} {e : TypeId} {g cap m size : Nat} {xs : List Value} (ho : w.ownsRow 0 e size (.slice (some ⟨g, 0, none⟩) m cap) m xs) (d : Array Value) (hd : d.toList = xs) : Holds id w g 0 d ∧ g < w.heap.size := by
  obtain ⟨hl, hr⟩ := ho
  rcases hr with ⟨h, _⟩ | ⟨g2, cap2, cur, hv, _, hg, hc, hx, hs, ht⟩
  · cases h
  cases hv
  refine ⟨fun j hj => ?_, (Array.getElem?_eq_some_iff.1 hg).1⟩
  have hle : m * size ≤ cap * size := Nat.mul_le_mul_right _ hc
  have hj2 : j < xs.length := by rw [← hd]; simpa using hj
  have hcj : cur[j]? = some d[j] := by
    have := congrArg (fun l => l[j]?) ht
    rw [List.getElem?_take, if_pos (by omega), Array.getElem?_toList, ← hd, Array.getElem?_toList, Array.getElem?_eq_getElem hj] at this
    exact this
  refine ⟨?_, ?_⟩
  · rw [cell_of_row w g (0 + j) _ _ _ hg, Nat.zero_add, hcj, getElem!_pos d j hj]; rfl
  · unfold World.frozen?
    rw [hg]
    simp
def OrdLays : Prop := ∀ (x y : itemL.Item) (w : World), Calls Try.prog 85 #[.agg (itC x).toArray, .agg (itC y).toArray] w fun e w' => e = .returned (.int .i64 (ordI x y)) ∧ ∃ q os', w' = grow (w.drewN q) os'
theorem itSortG (hord : OrdLays) (v : Value) (l : List itemL.Item) (w : World) (B : Base) (hm : Mem B [rowO 60 3 v l.length (l.flatMap itC)] w) (hl : l.length < 4611686018427387904) :
    Calls Try.prog 84 #[v, .func (.func 85) #[] #[]] w (MeetsB ⟨fun (_ : Unit) => True, fun _ => .tuple #[], fun _ => [rowO 60 3 v l.length ((sortI l).flatMap itC)]⟩ B) := by
  have ho : w.ownsRow 0 60 3 v l.length (l.flatMap itC) := hm.get (i := 0) rfl
  have ho2 := ho
  rcases ho.2 with ⟨rfl, h0⟩ | ⟨g, cap, cur, rfl, _, hg, hc, hx, hs, ht⟩
  · obtain rfl : l = [] := List.length_eq_zero_iff.1 h0
    refine (AnyF.slices_SortFunc_none sortIt none 0 _ w).mono fun e w' ⟨he, hw⟩ => ⟨(), trivial, he, ?_⟩
    rw [hw]; exact (by simpa [sortI] using hm)
  · obtain ⟨h1, h2⟩ := row_holdsV ho2 (flatK itC 3 l.toArray) (flat_it l)
    have hcmp : CmpLays Try.prog 85 #[] itC 3 ordI g 0 l.toArray.size w := fun m os dk _ x y => by
      have h := hord x y (sortWorldK itC 3 w g 0 m dk os)
      simpa using h
    have h := AnyQ.slices_SortFunc_total sortIt 3 Try.isAgg60 Try.sizeOf60 itC itC_len (fun x v hv => by simp only [itC, List.mem_cons, List.not_mem_nil, or_false] at hv; rcases hv with rfl | rfl | rfl <;> rfl) ordI swo_it 85 #[] g 0 cap l.toArray w EntersC.en hcmp h1 h2 (by simpa using hl) ltI_parts
    have hz : l.toArray.size = l.length := by simp
    rw [hz] at h
    refine h.mono fun e w' ⟨he, n, os, hw⟩ => ⟨(), trivial, he, ?_⟩
    have hlen : (sortI l).length = l.length := sort_len l
    have hq := put_memV hm (flatK itC 3 (sortI l).toArray) (by rw [size_flatK]; simp [hlen]) n os
    rw [flat_it] at hq
    rw [hw]; exact hq
end Go.Proofs.Ytlojfbnimmdehaa.eng

